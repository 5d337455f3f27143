/-
  A list that is not great: its bounds.
  Plain: what commits keep of the entries' lists; a run of steps.
  Catalogs side by side; made.
  The law functions states and begins.
  Deeds that the laws make; lists of them; the plain run of awake.
  The walk of awake: the chapter's examples.
  The walk of CatalogKept.
-/
import Derived.Test.YtcfgcmjnailndaaPCatalogKeptx2
import Derived.StillTailTactics
import Derived.BigGuardPart
import Derived.BigCall
import Derived.Test.YtcfgcmjnailndaaKa10
import Derived.Test.YtcfgcmjnailndaaKa13
namespace Go.Proofs.Ytcfgcmjnailndaa
open Go.RowKit Go.Proofs.Ytcfgcmjnailndaa.PCatalogKept Go.Proofs.YtcfgcmjnailndaaW.PrintWords Go.Proofs.YtcfgcmjnailndaaW.PrintLast Go.Proofs.YtcfgcmjnailndaaW.PrintMore

/-- A deed's files are not too many. -/
def FewFiles (x : DE) : Prop := x.f6.length ≤ 5000
def sumFrom (l : List SP) (i : Nat) : Nat := ((l.drop i).map fun x => min x.f0.length 1000).sum
/-- What great's answer says of steps i, i + 1, .. and a sum n of those before. -/
def NotGreat (l : List SP) (n i : Nat) : Prop := l.length ≤ 20 ∧ n + sumFrom l i ≤ 150 ∧ ∀ j x, i ≤ j → l[j]? = some x → ∀ m y, m < 1000 → x.f0[m]? = some y → FewFiles y
theorem rdP {l : List SP} {i : Nat} {x : SP} (h : l[i]? = some x) : rd_T25 l (i : Int) = x := by
  unfold rd_T25; simp [List.getD_eq_getElem?_getD, h]
theorem rdJ {l : List DE} {i : Nat} {x : DE} (h : l[i]? = some x) : rd_T31 l (i : Int) = x := by
  unfold rd_T31; simp [List.getD_eq_getElem?_getD, h]
theorem sum_step {l : List SP} {i : Nat} {x : SP} (h : l[i]? = some x) : sumFrom l i = min x.f0.length 1000 + sumFrom l (i + 1) := by
  obtain ⟨hi, he⟩ := List.getElem?_eq_some_iff.1 h
  unfold sumFrom
  rw [List.drop_eq_getElem_cons hi, he]
  simp
theorem great_l1 {l : List SP} {i : Nat} {x : SP} (hx : l[i]? = some x) (n : Int) (R : Bool → Prop) (_hlen : x.f0.length ≤ 9223372036854775807)
    (hnext : ∃ k r, cirruslaw10_great.l0 k l n (wrap64 ((i : Int) + 1)) = some r ∧ R r) (htrue : R true) :
    ∀ (d j : Nat), j ≤ x.f0.length → x.f0.length - j = d → (∀ m y, m < j → m < 1000 → x.f0[m]? = some y → FewFiles y) →
    ∃ k r, cirruslaw10_great.l1 k l n i j = some r ∧ (R r ∧ (r = true ∨ ∀ m y, m < 1000 → x.f0[m]? = some y → FewFiles y)) := by
  obtain ⟨hi, -⟩ := List.getElem?_eq_some_iff.1 hx
  have hq : ∀ j, x.f0.length ≤ j ∨ 1000 ≤ j → (∀ m y, m < j → m < 1000 → x.f0[m]? = some y → FewFiles y) → ∃ k r, cirruslaw10_great.l1 k l n i j = some r ∧ (R r ∧ (r = true ∨ ∀ m y, m < 1000 → x.f0[m]? = some y → FewFiles y)) := by
    intro j hj hb
    obtain ⟨k, r, hk, hr⟩ := hnext
    refine ⟨k + 2, r, ?_, hr, .inr fun m y hm hy => hb m y ?_ hm hy⟩
    · unfold cirruslaw10_great.l1
      rw [if_pos (by omega), if_pos (by omega), rdP hx]
      rcases hj with hj | hj
      · rw [if_neg (by omega)]
        unfold cirruslaw10_great.j3
        rw [if_neg (by simp)]
        exact hk
      · by_cases hj2 : (j : Int) < (x.f0.length : Int)
        · rw [if_pos hj2]
          unfold cirruslaw10_great.j3
          rw [if_neg (by simp; omega)]
          exact hk
        · rw [if_neg hj2]
          unfold cirruslaw10_great.j3
          rw [if_neg (by simp)]
          exact hk
    · have := (List.getElem?_eq_some_iff.1 hy).1
      omega
  intro d
  induction d with
  | zero => exact fun j hj hd hb => hq j (.inl (by omega)) hb
  | succ d ih =>
    intro j hj hd hb
    by_cases hj1 : 1000 ≤ j
    · exact hq j (.inr hj1) hb
    obtain ⟨y, hy⟩ : ∃ y, x.f0[j]? = some y := ⟨_, List.getElem?_eq_getElem (by omega)⟩
    by_cases hf : FewFiles y ∧ ¬ (200 < y.f6.length ∧ y.f6.length ≤ 4000)
    · obtain ⟨k, r, hk, hr⟩ := ih (j + 1) (by omega) (by omega) (fun m z hm hm2 hz => by
        rcases Nat.lt_succ_iff_lt_or_eq.1 hm with h | rfl
        · exact hb m z h hm2 hz
        · rw [hy] at hz; cases hz; exact hf.1)
      refine ⟨k + 2, r, ?_, hr⟩
      unfold cirruslaw10_great.l1
      rw [if_pos (by omega), if_pos (by omega), rdP hx, if_pos (by omega)]
      unfold cirruslaw10_great.j3
      obtain ⟨hf1, hf2⟩ := hf
      unfold FewFiles at hf1
      have hw : wrap64 ((j : Int) + 1) = ((j + 1 : Nat) : Int) := wrap_id (by omega) (by omega)
      rw [if_pos (by simp; omega), if_pos (by omega), if_pos (by omega), if_pos (by omega), rdP hx, if_pos (by omega), rdJ hy, hw]
      by_cases h2 : (y.f6.length : Int) > 200
      · rw [if_pos h2, if_neg (by omega), if_neg (by omega)]
        exact hk
      · rw [if_neg h2, if_neg (by omega)]
        exact hk
    · refine ⟨2, true, ?_, htrue, .inl rfl⟩
      unfold cirruslaw10_great.l1
      rw [if_pos (by omega), if_pos (by omega), rdP hx, if_pos (by omega)]
      unfold cirruslaw10_great.j3
      rw [if_pos (by simp; omega), if_pos (by omega), if_pos (by omega), if_pos (by omega), rdP hx, if_pos (by omega), rdJ hy]
      unfold FewFiles at hf
      by_cases h2 : (y.f6.length : Int) > 200
      · rw [if_pos h2]
        by_cases h3 : (y.f6.length : Int) ≤ 4000
        · rw [if_pos h3]
        · rw [if_neg h3, if_pos (by omega)]
      · rw [if_neg h2, if_pos (by omega)]
theorem great_l0 {l : List SP} (hl : l.length ≤ 9223372036854775807) (hls : ∀ x ∈ l, x.f0.length ≤ 9223372036854775807) :
    ∀ (d i n : Nat), i ≤ l.length → l.length - i = d → n ≤ 1000 * i → ∃ k r, cirruslaw10_great.l0 k l n i = some r ∧ (r = false → NotGreat l n i) := by
  have hend : ∀ (i n : Nat), (l.length ≤ i ∨ 20 < i) → (∃ k r, cirruslaw10_great.l0 k l n i = some r ∧ (r = false → NotGreat l n i)) := by
    intro i n hi
    by_cases h20 : (l.length : Int) > 20
    · refine ⟨2, true, ?_, by simp⟩
      unfold cirruslaw10_great.l0
      by_cases hlt : (i : Int) < (l.length : Int)
      · rw [if_pos hlt]
        unfold cirruslaw10_great.j1
        rw [if_neg (by simp; omega), if_pos h20]
      · rw [if_neg hlt]
        unfold cirruslaw10_great.j1
        rw [if_neg (by simp), if_pos h20]
    · refine ⟨2, decide ((n : Int) > 150), ?_, fun h => ?_⟩
      · unfold cirruslaw10_great.l0
        rw [if_neg (by omega)]
        unfold cirruslaw10_great.j1
        rw [if_neg (by simp), if_neg h20]
      · have h1 : n ≤ 150 := by have := of_decide_eq_false h; omega
        have h2 : sumFrom l i = 0 := by
          unfold sumFrom
          rw [List.drop_eq_nil_of_le (by omega)]
          rfl
        refine ⟨by omega, by omega, fun j x hj hx => ?_⟩
        have := (List.getElem?_eq_some_iff.1 hx).1
        omega
  intro d
  induction d with
  | zero => exact fun i n hi hd hn => hend i n (.inl (by omega))
  | succ d ih =>
    intro i n hi hd hn
    by_cases h20 : 20 < i
    · exact hend i n (.inr h20)
    obtain ⟨x, hx⟩ : ∃ x, l[i]? = some x := ⟨_, List.getElem?_eq_getElem (by omega)⟩
    have hxl := hls x (List.mem_iff_getElem?.2 ⟨i, hx⟩)
    have hw : wrap64 ((i : Int) + 1) = ((i + 1 : Nat) : Int) := wrap_id (by omega) (by omega)
    have hmn : mn ((x.f0.length : Nat) : Int) 1000 = ((min x.f0.length 1000 : Nat) : Int) := by
      unfold mn; split <;> omega
    have hw2 : wrap64 ((n : Int) + mn ((x.f0.length : Nat) : Int) 1000) = ((n + min x.f0.length 1000 : Nat) : Int) := by
      rw [hmn, wrap_id (by omega) (by omega)]; omega
    obtain ⟨k, r, hk, hr, hr2⟩ := great_l1 hx (((n + min x.f0.length 1000 : Nat) : Int)) (fun r => r = false → NotGreat l (n + min x.f0.length 1000) (i + 1)) hxl
      (by rw [hw]; exact ih (i + 1) _ (by omega) (by omega) (by omega)) (by simp) _ 0 (Nat.zero_le _) rfl (fun m y hm => absurd hm (Nat.not_lt_zero _))
    refine ⟨k + 2, r, ?_, fun hrf => ?_⟩
    · unfold cirruslaw10_great.l0
      rw [if_pos (by omega)]
      unfold cirruslaw10_great.j1
      rw [if_pos (by simp; omega), if_pos (by omega), if_pos (by omega), rdP hx, hw2]
      exact hk
    · obtain ⟨g1, g2, g3⟩ := hr hrf
      refine ⟨g1, by rw [sum_step hx]; omega, fun j z hj hz => ?_⟩
      rcases Nat.lt_or_eq_of_le hj with hj | rfl
      · exact g3 j z hj hz
      · rw [hx] at hz; cases hz
        rcases hr2 with h | h
        · rw [hrf] at h; cases h
        · exact h
/-- What may be played. -/
structure Played (l : List SP) : Prop where
  len : l.length ≤ 20
  deeds : ∀ x ∈ l, x.f0.length ≤ 150
  sum : (l.map fun x => x.f0.length).sum ≤ 150
  ok : ∀ x ∈ l, ∀ y ∈ x.f0, DeedIn y
theorem le_sum {l : List SP} {x : SP} (h : x ∈ l) : min x.f0.length 1000 ≤ (l.map fun x => min x.f0.length 1000).sum := by
  induction l with
  | nil => simp at h
  | cons y r ih =>
    rcases List.mem_cons.1 h with rfl | h
    · simp
    · have := ih h; simp; omega
theorem sum_min {l : List SP} (h : ∀ x ∈ l, x.f0.length ≤ 1000) : (l.map fun x => min x.f0.length 1000) = l.map fun x => x.f0.length := by
  apply List.map_congr_left
  intro x hx
  have := h x hx
  omega
theorem played_of {l : List SP} (h : NotGreat l 0 0) (hr : ∀ x ∈ l, StepRaw x) : Played l := by
  obtain ⟨h1, h2, h3⟩ := h
  have h2' : (l.map fun x => min x.f0.length 1000).sum ≤ 150 := by simpa [sumFrom] using h2
  have hd : ∀ x ∈ l, x.f0.length ≤ 150 := fun x hx => by have := le_sum hx; omega
  refine ⟨h1, hd, ?_, fun x hx y hy => ?_⟩
  · rw [← sum_min (fun x hx => by have := hd x hx; omega)]; exact h2'
  · obtain ⟨j, hj⟩ := List.mem_iff_getElem?.1 hx
    obtain ⟨m, hm⟩ := List.mem_iff_getElem?.1 hy
    have hm2 := (List.getElem?_eq_some_iff.1 hm).1
    have hf := h3 j x (Nat.zero_le _) hj m y (by have := hd x hx; omega) hm
    obtain ⟨a, b, c, d, e⟩ := hr x hx y hy
    unfold FewFiles at hf
    exact ⟨a, b, c, d, e, by omega⟩
/-- What great's answer says. -/
def GreatSays (l : List SP) (w : World) (e : Ending) (w' : World) : Prop := ∃ r, e = .returned (.bool r) ∧ (r = false → Played l) ∧ Fr [] w w'
theorem great_any (A : Option Addr) (c : Nat) (l : List SP) (w : World) (hC : Kd.C kP w A l.length l) (hc : l.length ≤ c) (hr : ∀ x ∈ l, StepRaw x) (hl : l.length ≤ 9223372036854775807) (hls : ∀ x ∈ l, x.f0.length ≤ 9223372036854775807) :
    Calls Try.prog 8 #[.slice A l.length c] w (GreatSays l w) := by
  obtain ⟨k, r, hk, h⟩ := great_l0 hl hls _ 0 0 (Nat.zero_le _) rfl (Nat.zero_le _)
  exact (cirruslaw10_great.calls k A c l r w hC hc hk).mono fun e w' ⟨he, hb⟩ => ⟨r, he, fun hf => played_of (h hf) hr, Fr.of_below hb⟩
end Go.Proofs.Ytcfgcmjnailndaa

namespace Go.Proofs.Ytcfgcmjnailndaa
open Go.RowKit Go.Proofs.Ytcfgcmjnailndaa.PCatalogKept Go.Proofs.YtcfgcmjnailndaaW.PrintWords Go.Proofs.YtcfgcmjnailndaaW.PrintLast Go.Proofs.YtcfgcmjnailndaaW.PrintMore

theorem all_set {Q : EN → Prop} {es : List EN} {i : Nat} {f : EN → EN} (h : ∀ y ∈ es, Q y) (hf : ∀ y, Q y → Q (f y)) : ∀ y ∈ setE es i f, Q y := by
  intro y hy
  unfold setE at hy
  by_cases hi : i < es.length
  · rcases List.mem_or_eq_of_mem_set hy with h1 | h1
    · exact h y h1
    · rw [h1]
      refine hf _ (h _ ?_)
      rw [List.getD_eq_getElem?_getD, List.getElem?_eq_getElem hi]
      exact List.getElem_mem _
  · rw [List.set_eq_of_length_le (by omega)] at hy
    exact h y hy
theorem all_map {Q : EN → Prop} {es : List EN} {home : Int} {f : EN → EN} (h : ∀ y ∈ es, Q y) (hf : ∀ y, Q y → Q (f y)) : ∀ y ∈ es.map (tabs home f), Q y := by
  intro y hy
  obtain ⟨z, hz, rfl⟩ := List.mem_map.1 hy
  unfold tabs
  split
  · exact hf z (h z hz)
  · exact h z hz
theorem all_if {Q : EN → Prop} {c : Prop} [Decidable c] {a b : List EN} (ha : ∀ y ∈ a, Q y) (hb : ∀ y ∈ b, Q y) : ∀ y ∈ (if c then a else b), Q y := by split <;> assumption
/-- What holds of all entries, and of what deeds make of them, holds behind a deed. -/
theorem deed_all {Q : EN → Prop} {d : Dr} {es : List EN} {x : DE} (h : ∀ y ∈ es, Q y) (hq : ∀ y y' : EN, Q y → y'.f0.f3 = y.f0.f3 → y'.f0.f4 = y.f0.f4 → Q y') (hn : ∀ hm, Q (ent0 d es x hm)) (hl : ∀ y, Q y → Q (lay1 d x y)) : ∀ y ∈ (deedBy d es x).2, Q y := by
  have hnew : ∀ hm, ∀ y ∈ es ++ [ent0 d es x hm], Q y := fun hm y hy => by
    rcases List.mem_append.1 hy with h1 | h1
    · exact h y h1
    · rw [List.mem_singleton.1 h1]; exact hn hm
  have hund : ∀ bid, ∀ y ∈ (undropAt d es x bid).2, Q y := fun bid => by
    unfold undropAt
    split
    · exact h
    · split
      · exact h
      · dsimp only
        split
        · exact h
        · exact all_map (all_set h (fun y hy => hq y _ hy rfl rfl)) (fun y hy => by unfold backT; split; exact hq y _ hy rfl rfl; exact hy)
  unfold deedBy
  split
  · unfold create
    split
    · split
      · exact h
      · exact hnew _
    · split
      · exact h
      · split
        · exact h
        · exact hnew _
  split
  · unfold drop
    split
    · exact h
    · exact all_if (all_map (all_set h (fun y hy => hq y _ hy rfl rfl)) (fun y hy => by unfold goneT; split; exact hq y _ hy rfl rfl; exact hy)) (all_set h (fun y hy => hq y _ hy rfl rfl))
  split
  · unfold undrop
    split
    · exact hund 0
    · split
      · exact h
      · exact hund _
  split
  · unfold rename
    split
    · exact h
    · split
      · split
        · exact h
        · exact all_map (all_set h (fun y hy => hq y _ hy rfl rfl)) (fun y hy => by unfold baseT; split; exact hq y _ hy rfl rfl; exact hy)
      · split
        · exact h
        · exact all_set h (fun y hy => hq y _ hy rfl rfl)
  split
  · unfold swap
    split
    · exact all_set (all_set h (fun y hy => hq y _ hy rfl rfl)) (fun y hy => hq y _ hy rfl rfl)
    · exact h
  split
  · unfold lay
    split
    · exact h
    · exact all_set h hl
  · unfold keepIt
    split
    · exact h
    · exact all_set h (fun y hy => hq y _ hy rfl rfl)
def Fine (y : EN) : Prop := y.f0.f3.length ≤ 1000000 ∧ y.f0.f4.length ≤ 1000000000
theorem done_fine (d : Dr) : ∀ (xs : List DE) (es : List EN), (∀ x ∈ xs, DeedOk x) → (∀ y ∈ es, Fine y) → ∀ y ∈ (doneBy d es xs).2, Fine y
  | [], es, _, h => by unfold doneBy; split <;> exact h
  | x :: r, es, hx, h => by
    have hok := hx x (by simp)
    have h1 : ∀ y ∈ (deedBy d es x).2, Fine y := deed_all h (fun y y' hy e3 e4 => by unfold Fine; rw [e3, e4]; exact hy) (fun _ => ⟨hok.l4, Nat.zero_le _⟩) (fun _ _ => ⟨hok.l4, hok.l6⟩)
    unfold doneBy
    dsimp only
    split
    · exact done_fine d r _ (fun y hy => hx y (by simp [hy])) h1
    · exact h1
/-- A commit that was carried out. -/
structure Went (ss : List ST) (xs : List DE) (time : Int) (es : List EN) : Prop where
  valid : ∀ y ∈ xs, validB y = true
  one : 1 ≤ xs.length
  most : xs.length ≤ 60
  late : checkTime ss time = 0
  size : ss.length ≤ 4000
  done : doneBy ⟨ss.length, time, ss.map (·.f0)⟩ (lastOf ss).f2 xs = (0, es)
theorem commit_cases (ss : List ST) (xs : List DE) (time : Int) : (∃ e, e ≠ 0 ∧ commitBy ss xs time = ((0, e), ss)) ∨ ∃ es, Went ss xs time es ∧ commitBy ss xs time = (((ss.length : Int), 0), ss ++ [(⟨time, xs, es⟩ : ST)]) := by
  unfold commitBy
  split
  · exact .inl ⟨1, by decide, rfl⟩
  · rename_i h1
    simp only [Bool.or_eq_true, decide_eq_true_eq, not_or] at h1
    unfold force
    split
    · exact .inl ⟨9, by decide, rfl⟩
    · rename_i h2
      split
      · exact .inl ⟨2, by decide, rfl⟩
      · rename_i h3
        dsimp only
        split
        · rename_i h4
          exact .inl ⟨_, h4, rfl⟩
        · rename_i h4
          refine .inr ⟨_, ⟨good_of_any (by simpa using h1.2.2), by omega, by omega, by simpa using h2, by omega, ?_⟩, rfl⟩
          refine Prod.ext ?_ rfl
          simpa using h4
theorem last_mem {ss : List ST} (h : 0 < ss.length) : lastOf ss ∈ ss := List.mem_iff_getElem?.2 ⟨_, last_at h⟩
theorem commit_ok {ss : List ST} {xs : List DE} {time : Int} (h : CatOk ss) (hp : 0 < ss.length) (hi : ∀ y ∈ xs, DeedIn y) : CatOk (commitBy ss xs time).2 := by
  rcases commit_cases ss xs time with ⟨e, -, he⟩ | ⟨es, hw, he⟩
  · rw [he]; exact h
  · rw [he]
    have hok : ∀ x ∈ xs, DeedOk x := fun x hx => valid_ok (hw.valid x hx) (hi x hx)
    have hes : ∀ y ∈ es, Fine y := by
      have := done_fine ⟨ss.length, time, ss.map (·.f0)⟩ xs (lastOf ss).f2 hok (h.ents _ (last_mem hp))
      rwa [hw.done] at this
    refine ⟨fun s hs => ?_, fun s hs => ?_⟩
    · rcases List.mem_append.1 hs with h1 | h1
      · exact h.ents s h1
      · rw [List.mem_singleton.1 h1]; exact hes
    · rcases List.mem_append.1 hs with h1 | h1
      · exact h.deeds s h1
      · rw [List.mem_singleton.1 h1]
        exact ⟨by have := hw.most; show xs.length ≤ 100000; omega, hok⟩
theorem commit_len (ss : List ST) (xs : List DE) (time : Int) : ss.length ≤ (commitBy ss xs time).2.length ∧ (commitBy ss xs time).2.length ≤ ss.length + 1 := by
  rcases commit_cases ss xs time with ⟨e, -, he⟩ | ⟨es, -, he⟩ <;> rw [he] <;> simp
theorem commit_pre (ss : List ST) (xs : List DE) (time : Int) : ∃ t, (commitBy ss xs time).2 = ss ++ t := by
  rcases commit_cases ss xs time with ⟨e, -, he⟩ | ⟨es, -, he⟩ <;> rw [he]
  · exact ⟨[], by simp⟩
  · exact ⟨_, rfl⟩
/-- The states behind a list of steps. -/
def runBy (ss : List ST) : List SP → List ST
  | [] => ss
  | x :: r => runBy (commitBy ss x.f0 x.f1).2 r
theorem run_pre : ∀ (l : List SP) (ss : List ST), ∃ t, runBy ss l = ss ++ t
  | [], ss => ⟨[], by simp [runBy]⟩
  | x :: r, ss => by
    obtain ⟨t, ht⟩ := commit_pre ss x.f0 x.f1
    obtain ⟨u, hu⟩ := run_pre r (commitBy ss x.f0 x.f1).2
    exact ⟨t ++ u, by rw [runBy, hu, ht, List.append_assoc]⟩
theorem run_len : ∀ (l : List SP) (ss : List ST), (runBy ss l).length ≤ ss.length + l.length
  | [], ss => by simp [runBy]
  | x :: r, ss => by
    have := run_len r (commitBy ss x.f0 x.f1).2
    have := commit_len ss x.f0 x.f1
    rw [runBy]; simp; omega
theorem run_pos {l : List SP} {ss : List ST} (h : 0 < ss.length) : 0 < (runBy ss l).length := by
  obtain ⟨t, ht⟩ := run_pre l ss
  rw [ht]; simp; omega
theorem run_ok : ∀ (l : List SP) (ss : List ST), CatOk ss → 0 < ss.length → (∀ x ∈ l, ∀ y ∈ x.f0, DeedIn y) → CatOk (runBy ss l)
  | [], ss, h, _, _ => h
  | x :: r, ss, h, hp, hi => run_ok r _ (commit_ok h hp (hi x (by simp))) (by have := commit_len ss x.f0 x.f1; omega) (fun z hz => hi z (by simp [hz]))
theorem run_take {l : List SP} {ss : List ST} {k : Nat} {x : SP} (h : l[k]? = some x) : runBy ss (l.take (k + 1)) = (commitBy (runBy ss (l.take k)) x.f0 x.f1).2 := by
  obtain ⟨hk, he⟩ := List.getElem?_eq_some_iff.1 h
  rw [List.take_succ_eq_append_getElem hk, he]
  clear h hk he
  generalize l.take k = l'
  induction l' generalizing ss with
  | nil => rfl
  | cons y r ih => simp only [List.cons_append, runBy]; exact ih
theorem new_ok : CatOk Cat.new := ⟨by simp [Cat.new], by simp [Cat.new]⟩
end Go.Proofs.Ytcfgcmjnailndaa

namespace Go.Proofs.Ytcfgcmjnailndaa
open Go.RowKit Go.Proofs.Ytcfgcmjnailndaa.PCatalogKept Go.Proofs.YtcfgcmjnailndaaW.PrintWords Go.Proofs.YtcfgcmjnailndaaW.PrintLast Go.Proofs.YtcfgcmjnailndaaW.PrintMore

theorem R_fr2 {α : Type} {d : Kd α} {e base : Nat} {w w' : World} {v : Value} {xs : List α} {S : List Nat} (h : d.R e w base (fun _ => True) v xs) (hf : Fr S w w') (hS : NoT w d.E S) (hv : ∀ k, v.ownBlock = some k → k ∉ S) : d.R e w' base (fun _ => True) v xs := by
  have hlt := Kd.R_lt h
  obtain ⟨h0, inner, ho, hr⟩ := h
  have h2 : d.R e w base (fun k => k < w.heap.size ∧ k ∉ S) v xs := ⟨fun k hk => ⟨hlt k hk, hv k hk⟩, inner, ho, hr.imp_ (fun _ _ hp => d.M_mono (fun k hk => by
    obtain ⟨⟨-, hne⟩, -, hl, q, hq, cells, hc⟩ := hk
    exact ⟨⟨hl, fun hm => hS k hm q hq cells hc⟩, hne⟩) (d.M_bound hp))⟩
  exact Kd.R_mono (Kd.R_move h2 (fun k hk => hf.block k hk.1 hk.2)) (fun _ _ => trivial)
theorem kS_E2 {q : Nat} (hq : q ∈ kS.E) : q ∈ [31, 83, 3, 64] := by
  simp [kS, kD, kE, kA, Kd.iso, Kd.pair, Kd.int, Kd.string, Kd.scalar, ros, own0, k83] at hq
  simp
  omega
section
variable {w w' : World} {cb : Nat} {v : Value} {ss : List ST}
theorem CatAt.fr2 {S : List Nat} (h : CatAt w cb v ss) (hf : Fr S w w') (h1 : cb ∉ S) (h2 : NoT w [31, 83, 3, 64] S) (h3 : ∀ k, v.ownBlock = some k → k ∉ S) : CatAt w' cb v ss :=
  ⟨hf.blk h.blk h1, R_fr2 h.row hf (fun k hk q hq => h2 k hk q (kS_E2 hq)) h3, h.pos, h.small, h.ents⟩
/-- The blocks of a catalog hold none of these types. -/
theorem CatAt.noT (h : CatAt w cb v ss) {E : List Nat} (hE : ∀ q ∈ E, q ≠ 58 ∧ q ≠ 71) : NoT w E (cb :: v.ownBlock.toList) := by
  refine NoT.cons (NoT.one h.blk (fun q hq => (hE q hq).1)) ?_
  cases ho : v.ownBlock with
  | none => exact NoT.nil _ _
  | some k =>
    obtain ⟨cells, hc⟩ := Kd.R_typed h.row k ho
    exact NoT.one hc (fun q hq => (hE q hq).2)
end
/-- A catalog that was made behind w0. -/
structure Live (w0 w : World) (cb : Nat) (v : Value) (ss : List ST) : Prop where
  cat : CatAt w cb v ss
  cb : w0.heap.size ≤ cb
  own : ∀ k, v.ownBlock = some k → w0.heap.size ≤ k
section
variable {w0 w w' : World} {cb : Nat} {v : Value} {ss : List ST}
theorem Live.fr0 (h : Live w0 w cb v ss) (f : Fr [] w w') : Live w0 w' cb v ss := ⟨h.cat.fr0 f, h.cb, h.own⟩
theorem Live.after {w1 : World} (h : Live w1 w cb v ss) (f : Fr [] w0 w1) : Live w0 w cb v ss := ⟨h.cat, Nat.le_trans f.size h.cb, fun k hk => Nat.le_trans f.size (h.own k hk)⟩
/-- Behind a commit. -/
theorem Live.commit {r : (Int × Int) × List ST} {e : Ending} (h : Live w0 w cb v ss) (f : Fr [] w0 w) (hq : Forced cb v r w e w') : e = .returned (.tuple #[.int .i64 r.1.1, .int .i64 r.1.2]) ∧ Fr (cb :: v.ownBlock.toList) w w' ∧ Fr [] w0 w' ∧ ∃ v', Live w0 w' cb v' r.2 ∧ ∀ k, v'.ownBlock = some k → v.ownBlock = some k ∨ w.heap.size ≤ k := by
  obtain ⟨he, v', hc, hf, ho⟩ := hq
  refine ⟨he, hf, f.trans hf (fun z hz => .inr ?_), v', ⟨hc, h.cb, fun k hk => ?_⟩, ho⟩
  · rcases List.mem_cons.1 hz with rfl | hz
    · exact h.cb
    · exact h.own z (by simpa using hz)
  · rcases ho k hk with h1 | h1
    · exact h.own k h1
    · exact Nat.le_trans f.size h1
/-- Another catalog, of other blocks, is as it was. -/
structure Apart2 (cb : Nat) (v : Value) (cb2 : Nat) (v2 : Value) : Prop where
  cb : cb ≠ cb2
  own : ∀ k, v.ownBlock = some k → v2.ownBlock ≠ some k
theorem Live.other {cb2 : Nat} {v2 : Value} {ss2 : List ST} (h : Live w0 w cb2 v2 ss2) (hc : CatAt w cb v ss) (ha : Apart2 cb v cb2 v2) (f : Fr (cb :: v.ownBlock.toList) w w') : Live w0 w' cb2 v2 ss2 := by
  have hown : ∀ k, v.ownBlock = some k → k ≠ cb2 := by
    rintro k hk rfl
    obtain ⟨cells, hb⟩ := Kd.R_typed hc.row k hk
    rw [h.cat.blk] at hb
    injection hb with hb; injection hb with _ hb; exact absurd hb (by decide)
  have hcb : v2.ownBlock ≠ some cb := by
    intro hk
    obtain ⟨cells, hb⟩ := Kd.R_typed h.cat.row cb hk
    rw [hc.blk] at hb
    injection hb with hb; injection hb with _ hb; exact absurd hb (by decide)
  refine ⟨h.cat.fr2 f ?_ (hc.noT (by decide)) ?_, h.cb, h.own⟩
  · intro hm
    rcases List.mem_cons.1 hm with h1 | h1
    · exact ha.cb h1.symm
    · exact hown cb2 (by simpa using h1) rfl
  · intro k hk hm
    rcases List.mem_cons.1 hm with rfl | h1
    · exact hcb hk
    · exact ha.own k (by simpa using h1) hk
theorem Apart2.grown {cb2 : Nat} {v2 v' : Value} {ss2 : List ST} (ha : Apart2 cb v cb2 v2) (h : CatAt w cb2 v2 ss2) (ho : ∀ k, v'.ownBlock = some k → v.ownBlock = some k ∨ w.heap.size ≤ k) : Apart2 cb v' cb2 v2 := by
  refine ⟨ha.cb, fun k hk h2 => ?_⟩
  rcases ho k hk with h1 | h1
  · exact ha.own k h1 h2
  · have := Kd.R_lt h.row k h2
    omega
end
theorem steps_at {w : World} {A : Option Addr} {n k : Nat} {xs : List SP} {x : SP} (h : Kd.C kP w A n xs) (hx : xs[k]? = some x) :
    ∃ b off A0 c0, A = some ⟨b, off, none⟩ ∧ w.cell? ⟨b, off + k * 2, none⟩ = some (.slice A0 x.f0.length c0) ∧ w.cell? ⟨b, off + k * 2 + 1, none⟩ = some (.int .i64 x.f1) ∧ x.f0.length ≤ c0 ∧ Kd.C kJ w A0 x.f0.length x.f0 := by
  have hk := (List.getElem?_eq_some_iff.1 hx).1
  have hn : xs.length = n := h.1
  obtain ⟨ad, A0, c0, e, h0, h1, hl, hC⟩ := at_T25 h (k : Int) (by omega) (by omega)
  rw [rdP hx] at h0 h1 hl hC
  have hsp : ad.spot = none := by
    obtain ⟨ad', _, _, e', h0', _⟩ := at_T25 h 0 (by omega) (by omega)
    rw [e] at e'
    cases e'
    have hs := spot_none h0'
    simpa [Addr.add] using hs
  rw [addr_plain hsp] at e
  have ea : ad.add (((k : Int)).toNat * 2) = ⟨ad.block, ad.off + k * 2, none⟩ := by rw [addr_plain hsp, add_mk]; simp
  rw [ea] at h0 h1
  exact ⟨ad.block, ad.off, A0, c0, e, h0, h1, hl, hC⟩
/-- A list of steps that comes in. -/
structure StepsRaw (w : World) (A : Option Addr) (c : Nat) (l : List SP) : Prop where
  row : Kd.C kP w A l.length l
  cap : l.length ≤ c
  raw : ∀ x ∈ l, StepRaw x
theorem StepsRaw.fr {w w' : World} {A : Option Addr} {c : Nat} {l : List SP} (h : StepsRaw w A c l) (f : Fr [] w w') : StepsRaw w' A c l := ⟨Kd.C_below h.row f.below0, h.cap, h.raw⟩
theorem great_of {w : World} {A : Option Addr} {c : Nat} {l : List SP} (h : StepsRaw w A c l) : Calls Try.prog 8 #[.slice A l.length c] w (GreatSays l w) :=
  great_any A c l w h.row h.cap h.raw (Kd.C_max h.row) (fun x hx => by
    obtain ⟨k, hk⟩ := List.mem_iff_getElem?.1 hx
    obtain ⟨b, off, A0, c0, -, -, -, -, hC⟩ := steps_at h.row hk
    exact Kd.C_max hC)
/-- A list of steps that comes in, and may be played. -/
structure StepsIn (w : World) (A : Option Addr) (c : Nat) (l : List SP) : Prop where
  row : Kd.C kP w A l.length l
  cap : l.length ≤ c
  ok : Played l
theorem StepsIn.fr {w w' : World} {A : Option Addr} {c : Nat} {l : List SP} (h : StepsIn w A c l) (f : Fr [] w w') : StepsIn w' A c l := ⟨Kd.C_below h.row f.below0, h.cap, h.ok⟩
theorem StepsRaw.ok {w : World} {A : Option Addr} {c : Nat} {l : List SP} (h : StepsRaw w A c l) (hp : Played l) : StepsIn w A c l := ⟨h.row, h.cap, hp⟩
theorem StepsIn.deeds {w : World} {A : Option Addr} {c : Nat} {l : List SP} {x : SP} {A0 : Option Addr} {c0 : Nat} {k : Nat} (h : StepsIn w A c l) (hx : l[k]? = some x) (hC : Kd.C kJ w A0 x.f0.length x.f0) : ListIn w A0 c0 x.f0 := by
  have hm := List.mem_iff_getElem?.2 ⟨k, hx⟩
  exact ⟨hC, by have := h.ok.deeds x hm; omega, h.ok.ok x hm⟩

set_option maxRecDepth 100000 in
set_option maxHeartbeats 2000000 in
theorem made_any (A : Option Addr) (c : Nat) (l : List SP) (w : World) (h : StepsIn w A c l) :
    Calls Try.prog 10 #[.slice A l.length c] w fun e w' => ∃ cb v, e = .returned (.pointer (some ⟨cb, 0, none⟩)) ∧ Live w w' cb v (runBy Cat.new l) ∧ Fr [] w w' := by
  have H := hid h
  have hl20 := h.ok.len
  clear h
  go_enter Try.func10, Try.ntmps10
  go_wp2_with (go_at_call 23; refine (new_any _).mono ?_; rintro e w1 ⟨cb, v0, rfl, hc, hf, hcb, hown⟩; have L0 : Hid (Live w w1 cb v0 (runBy Cat.new (l.take 0))) := hid ⟨hc, hcb, hown⟩; have F0 := hid hf; clear hc hf hcb hown)
  go_loopw [4] (fun i wr => ∃ (j : Nat) (v : Value), i = .int .i64 j ∧ j ≤ l.length ∧ Live w wr cb v (runBy Cat.new (l.take j)) ∧ Fr [] w wr) (fun i _ => l.length - (intOf i).toNat)
  case atStart => exact ⟨0, v0, rfl, Nat.zero_le _, L0.out, F0.out⟩
  case round =>
    obtain ⟨j, v, rfl, hj, hL, hF⟩ := hrel
    have HL := hid hL
    have HF := hid hF
    clear hL hF
    by_cases hlt : j < l.length
    · obtain ⟨x, hx⟩ : ∃ x, l[j]? = some x := ⟨_, List.getElem?_eq_getElem hlt⟩
      obtain ⟨b, off, A0, c0, eA, m0, m1, hc0, hCx⟩ := steps_at (H.out.fr HF.out).row hx
      subst eA
      have LI := hid ((H.out.fr HF.out).deeds (c0 := c0) hx hCx)
      have HX := hid hx
      have hm0 : (0 : Int) ≤ (j : Int) := by omega
      have hm1 : (j : Int) < (l.length : Int) := by omega
      clear hx hCx
      go_wp2_with fail
      go_still_tail 11, (by kernel_rfl)
      change wpList _ _ _ _ _ wr.drew
      go_wp2_with (go_at_call 11; refine (committed cb v _ A0 c0 x.f0 x.f1 wr.drew (HL.out.fr0 (Fr.refl [] wr).drew).cat (LI.out.below (Fr.refl [] wr).drew)).mono ?_; intro e w3 hq; obtain ⟨rfl, hf3, hff, v', hlv, -⟩ := (HL.out.fr0 (Fr.refl [] wr).drew).commit HF.out.drew hq; have F3 := hid hff; have L3 := hid hlv; clear hq hf3 hff hlv)
      go_roundw
      case rel => exact ⟨j + 1, v', by go_num, by omega, by rw [run_take HX.out]; exact L3.out, F3.out⟩
      case measure => simp [intOf]; omega
    · obtain rfl : j = l.length := by omega
      have hL := HL.out
      rw [List.take_length] at hL
      have HL2 := hid hL
      clear hL
      go_wp2
      go_ret
      exact ⟨cb, v, rfl, HL2.out, HF.out⟩
end Go.Proofs.Ytcfgcmjnailndaa

namespace Go.Proofs.Ytcfgcmjnailndaa
open Go.RowKit Go.Proofs.Ytcfgcmjnailndaa.PCatalogKept Go.Proofs.YtcfgcmjnailndaaW.PrintWords Go.Proofs.YtcfgcmjnailndaaW.PrintLast Go.Proofs.YtcfgcmjnailndaaW.PrintMore

abbrev kL : Kd (List AE) := ros 49 kA
def allOf (s : ST) : List AE := picked isAny s.f2
theorem infoL : (Try.prog.info? 37).map (fun i => (i.zero, i.size, i.bytes)) = some (some (.slice none 0 0), 1, 24) := by kernel_rfl
theorem list_append {w : World} {v : Value} {xs : List (List AE)} (R : kL.R 37 w 0 (fun _ => True) v xs) (hl : xs.length < 1000000) (x : List AE) (v1 : Value) (h1 : kA.R 49 w 0 (fun _ => True) v1 x) :
    ∃ A1 c1 w1, (Builtin.append_ #[44, 44] 44 #[v, .slice (some ⟨w.heap.size, 0, none⟩) 1 1]).run Try.prog (w.alloc (.cells #[v1] 37)) = .ok (.slice A1 (xs.length + 1) c1) w1 ∧
      kL.R 37 w1 0 (fun _ => True) (.slice A1 (xs.length + 1) c1) (xs ++ [x]) ∧ w.grownBy w1 v.ownBlock ∧ ((Value.slice A1 (xs.length + 1) c1).ownBlock = v.ownBlock ∨ ∃ b, (Value.slice A1 (xs.length + 1) c1).ownBlock = some b ∧ w.heap.size ≤ b) := by
  obtain ⟨v2, w1, hrun, r5, g5, a5⟩ := R_run (P := Try.prog) kL (W := w) 44 44 37 _ 24 Try.underlying44 infoL rfl (by decide) (by decide) v xs x [v1] (fun k => some k ≠ v.ownBlock)
    (M_ownR (ros_of_R h1) R (by decide)) (fun _ h => h) R (by omega)
  obtain ⟨A1, c1, e⟩ := Kd.R_slice r5
  rw [List.length_append, List.length_singleton] at e
  subst e
  exact ⟨A1, c1, w1, hrun, r5, g5, a5⟩
theorem lists_at {w : World} {g n c k : Nat} {xs : List (List AE)} {x : List AE} (h : kL.R 37 w 0 (fun _ => True) (.slice (some ⟨g, 0, none⟩) n c) xs) (hx : xs[k]? = some x) :
    ∃ A0 c0, w.cell? ⟨g, k, none⟩ = some (.slice A0 x.length c0) ∧ x.length ≤ c0 ∧ Kd.C k49 w A0 x.length x := by
  obtain ⟨hn, -, -⟩ := Kd.R_reads' h
  have hi := (List.getElem?_eq_some_iff.1 hx).1
  obtain ⟨cs, h1, h2, h3, h4⟩ := Kd.R_elem h [] (k : Int) (by omega) (by omega)
  have e : xs.getD ((k : Int)).toNat [] = x := by simp [List.getD_eq_getElem?_getD, hx]
  rw [e] at h2
  obtain ⟨A, c', hcs, hl, h5⟩ := id h2
  subst hcs
  obtain ⟨A', c'', e', hl', hC⟩ := ros_C h2
  injection e' with e1 e2 e3
  subst e1 e3
  have := h3 0 _ rfl
  rw [show kL.sz = 1 from rfl] at this
  exact ⟨A, c', by simpa using this, hl, hC⟩
theorem allBy_at {ss : List ST} {j : Nat} {s : ST} (h : ss[j]? = some s) : allBy ss (j : Int) = (allOf s, 0) := by
  have hj := (List.getElem?_eq_some_iff.1 h).1
  unfold allBy someBy
  rw [if_neg (by omega)]
  simp [List.getD_eq_getElem?_getD, h, allOf]
/-- What states leaves. -/
def Told (ls : List (List AE)) (w : World) (e : Ending) (w' : World) : Prop :=
  ∃ v, e = .returned v ∧ kL.R 37 w' 0 (fun _ => True) v ls ∧ Fr [] w w' ∧ ∀ q, v.ownBlock = some q → w.heap.size ≤ q
set_option maxRecDepth 100000 in
set_option maxHeartbeats 4000000 in
theorem states_any (cb : Nat) (v : Value) (ss : List ST) (w : World) (h : CatAt w cb v ss) (hE : CatOk ss) (hl : ss.length ≤ 100) :
    Calls Try.prog 16 #[.pointer (some ⟨cb, 0, none⟩)] w (Told (ss.map allOf) w) := by
  have H := hid h
  have HE := hid hE
  have hpos := h.pos
  obtain ⟨g, c, rfl, hgl, hlc⟩ := h.form
  clear h hE
  go_enter Try.func16, Try.ntmps16
  go_wp2
  go_loopw [3, 4] (fun out i wr => ∃ (j : Nat), i = .int .i64 j ∧ j ≤ ss.length ∧ kL.R 37 wr 0 (fun _ => True) out ((ss.take j).map allOf) ∧ Fr [] w wr ∧ ∀ q, out.ownBlock = some q → w.heap.size ≤ q) (fun _ i _ => ss.length - (intOf i).toNat)
  case atStart => exact ⟨0, rfl, Nat.zero_le _, Kd.R_nil _ _ _ _ _, Fr.refl _ _, fun q hq => by simp [Value.ownBlock] at hq⟩
  case round =>
    obtain ⟨j, rfl, hj, hR, hF, hO⟩ := hrel
    have HR := hid hR
    have HF := hid hF
    have HO := hid hO
    have H1 := hid (H.out.fr0 hF)
    have CNT := hid (count_yes cb _ ss.length c wr H1.out.c0 hpos (by omega))
    clear hR hF hO
    by_cases hlt : j < ss.length
    · obtain ⟨s, hs⟩ : ∃ s, ss[j]? = some s := ⟨_, List.getElem?_eq_getElem hlt⟩
      have HS := hid hs
      have AB := hid (allBy_at hs)
      have ALL := hid (all_any cb _ ss (j : Int) wr H1.out HE.out)
      rw [AB.out] at ALL
      obtain ⟨T, hT⟩ : ∃ T, T = (ss.take j).map allOf := ⟨_, rfl⟩
      have hR := HR.out
      rw [← hT] at hR
      have hTl : T.length ≤ 100 := by rw [hT]; simp; omega
      have HT := hid hT
      obtain ⟨A8, c8, rfl⟩ := Kd.R_slice hR
      have HRT := hid hR
      have hm1 : (j : Int) ≤ (ss.length : Int) - 1 := by omega
      have hm2 : (j : Int) ≤ 100 := by omega
      clear hs hR hT
      go_wp2_with (first
        | ((with_reducible refine gate_dst (N := 26) rfl ?_); refine step_append (v := .slice A8 T.length c8) (y := .slice (some ⟨w4.heap.size, 0, none⟩) 1 1) (v1 := .slice A9 (T.length + 1) c9) (w1 := w5) rfl (.tmp 23) (.tmp 25) 44 rfl rfl rfl HRUN.out ?_)
        | (go_at_call 13; refine CNT.out.mono ?_; rintro e w1 ⟨rfl, rfl⟩)
        | (go_at_call 35; refine ALL.out.mono ?_; rintro e w4 ⟨u, rfl, r4, f4, o4⟩; obtain ⟨A7, c7, rfl⟩ := Kd.R_slice r4; obtain ⟨A9, c9, w5, hrun, r9, g9, a9⟩ := list_append (R_fr0 HRT.out f4) (by omega) (allOf s) _ r4; obtain ⟨f9, o9⟩ := grow_own (HF.out.then f4) HO.out g9 a9; have HRUN := hid hrun; have R9 := hid r9; have F9 := hid f9; have O9 := hid o9; clear r4 f4 hrun r9 g9 a9 f9 o9))
      go_roundw
      case rel => exact ⟨j + 1, by go_num, by omega, by rw [List.take_succ_eq_append_getElem hlt, (List.getElem?_eq_some_iff.1 HS.out).2, List.map_append, ← HT.out]; exact R9.out, F9.out, O9.out⟩
      case measure => simp [intOf]; omega
    · obtain rfl : j = ss.length := by omega
      have hr := HR.out
      rw [List.take_length] at hr
      have HR2 := hid hr
      have hm1 : ¬ ((ss.length : Int) ≤ (ss.length : Int) - 1) := by omega
      clear hr
      go_wp2_with (go_at_call 13; refine CNT.out.mono ?_; rintro e w1 ⟨rfl, rfl⟩)
      go_ret
      exact ⟨_, rfl, HR2.out, HF.out, HO.out⟩
theorem mild_all {ss : List ST} {s : ST} (h : CatOk ss) (hs : s ∈ ss) : ∀ x ∈ allOf s, Mild x := by
  intro x hx
  obtain ⟨y, hy, rfl⟩ := List.mem_map.1 hx
  exact h.ents s hs y (List.mem_filter.1 hy).1
set_option maxRecDepth 100000 in
set_option maxHeartbeats 4000000 in
theorem begins_any (cb : Nat) (v : Value) (ss : List ST) (u : Value) (ls t : List (List AE)) (w : World) (h : CatAt w cb v ss) (hE : CatOk ss) (hl : ss.length ≤ 100) (hu : kL.R 37 w 0 (fun _ => True) u ls) (ht : ss.map allOf = ls ++ t) :
    Calls Try.prog 17 #[.pointer (some ⟨cb, 0, none⟩), u] w fun e w' => e = .returned (.bool true) ∧ Fr [] w w' := by
  have CST := hid (states_any cb v ss w h hE hl)
  have HE := hid hE
  have HT := hid ht
  have hents := hid h.ents
  have hlen : ls.length ≤ ss.length := by have := congrArg List.length ht; simp at this; omega
  obtain ⟨ml, hml⟩ : ∃ ml, ml = ss.map allOf := ⟨_, rfl⟩
  rw [← hml] at CST
  have hmll : ml.length = ss.length := by rw [hml]; simp
  have HML := hid hml
  have HU := hid hu
  obtain ⟨A1, c1, rfl⟩ := Kd.R_slice hu
  have hge : decide (ml.length < ls.length) = false := by simp; omega
  have HMLL := hid hmll
  clear h hE ht hu hml hmll
  go_enter Try.func17, Try.ntmps17
  go_wp2_with (go_at_call 16; refine CST.out.mono ?_; rintro e w1 ⟨u2, rfl, r1, f1, -⟩; obtain ⟨A2, c2, rfl⟩ := Kd.R_slice r1; have R1 := hid r1; have F1 := hid f1; clear r1 f1)
  go_loopw [6] (fun i wr => ∃ (j : Nat), i = .int .i64 j ∧ j ≤ ls.length ∧ Fr [] w1 wr) (fun i _ => ls.length - (intOf i).toNat)
  case atStart => exact ⟨0, rfl, Nat.zero_le _, Fr.refl _ _⟩
  case round =>
    obtain ⟨j, rfl, hj, hF⟩ := hrel
    have HF := hid hF
    clear hF
    by_cases hlt : j < ls.length
    · obtain ⟨x, hx⟩ : ∃ x, ls[j]? = some x := ⟨_, List.getElem?_eq_getElem hlt⟩
      have hml1 : j < ml.length := by have := HMLL.out; omega
      have hx2 : ml[j]? = some x := by
        rw [HML.out, HT.out, List.getElem?_append_left hlt, hx]
      obtain ⟨s, hs, hxs⟩ : ∃ s ∈ ss, x = allOf s := by
        have := List.mem_iff_getElem?.2 ⟨j, hx2⟩
        rw [HML.out] at this
        obtain ⟨s, hs, rfl⟩ := List.mem_map.1 this
        exact ⟨s, hs, rfl⟩
      have hmild : ∀ z ∈ x, Mild z := by rw [hxs]; exact mild_all HE.out hs
      have hxl : x.length ≤ 1000000 := by
        have := hents.out s hs
        have := picked_len isAny s.f2
        rw [hxs]; unfold allOf; omega
      obtain ⟨g1, c1', e1, -⟩ := Kd.R_form HU.out (by omega)
      obtain ⟨g2, c2', e2, -⟩ := Kd.R_form R1.out (by omega)
      injection e1 with e1 e1b e1c
      injection e2 with e2 e2b e2c
      subst e1 e2
      clear e1b e1c e2b e2c
      obtain ⟨B0, b0, m0, q0, C0⟩ := lists_at (R_fr0 HU.out (F1.out.then HF.out)) hx
      obtain ⟨B1, b1, m1, q1, C1⟩ := lists_at (R_fr0 R1.out HF.out) hx2
      have SAME := hid (same_any x B0 b0 B1 b1 wr.drew (Kd.C_below C0 (Fr.refl [] wr).drew.below0) q0 (Kd.C_below C1 (Fr.refl [] wr).drew.below0) q1 hmild hxl)
      have hm0 : (0 : Int) ≤ (j : Int) := by omega
      have hm1 : (j : Int) < (ls.length : Int) := by omega
      have hm2 : (j : Int) < (ml.length : Int) := by omega
      clear hx hx2 hxs hs hmild C0 C1
      go_wp2_with fail
      go_still_tail 8, (by kernel_rfl)
      change wpList _ _ _ _ _ wr.drew
      go_wp2_with (go_at_call 19; refine SAME.out.mono ?_; rintro e w3 ⟨rfl, f3⟩; have F3 := hid (HF.out.then ((Fr.refl [] wr).drew.then f3)); clear f3)
      go_roundw
      case rel => exact ⟨j + 1, by go_num, by omega, F3.out⟩
      case measure => simp [intOf]; omega
    · obtain rfl : j = ls.length := by omega
      go_wp2
      go_ret
      exact ⟨rfl, F1.out.then HF.out⟩
end Go.Proofs.Ytcfgcmjnailndaa

namespace Go.Proofs.Ytcfgcmjnailndaa
open Go.RowKit Go.Proofs.Ytcfgcmjnailndaa.PCatalogKept Go.Proofs.YtcfgcmjnailndaaW.PrintWords Go.Proofs.YtcfgcmjnailndaaW.PrintLast Go.Proofs.YtcfgcmjnailndaaW.PrintMore

theorem lit_rows {α : Type} (d : Kd α) (e : TypeId) (W : World) (xs : List α) (cs : List Value) (hl : xs.length ≤ 9223372036854775807) (h : Reps (d.M W 0 (fun k => some k ≠ some W.heap.size)) d.sz xs cs) :
    d.R e (W.alloc (.cells cs.toArray e)) 0 (fun _ => True) (.slice (some ⟨W.heap.size, 0, none⟩) xs.length xs.length) xs := by
  refine ⟨fun _ _ => trivial, OwnRow.lit W 0 (inner := cs) (ps := xs) (h.imp_ (fun x c hx => ?_)) (Nat.zero_le _) hl⟩
  refine d.M_mono ?_ (d.M_move (fun k hk => ?_) (d.M_bound hx))
  · rintro k ⟨h1, -⟩; exact ⟨trivial, h1⟩
  · exact heap_alloc_old W _ hk.2.2.1
theorem M_new {α : Type} {d : Kd α} {w : World} {x : α} {cs : List Value} (h : d.M w 0 (fun _ => True) x cs) : d.M w 0 (fun k => some k ≠ some w.heap.size) x cs :=
  d.M_mono (fun k hk => by have := hk.2.2.1; intro e; injection e with e; omega) (d.M_bound h)
/-- A deed that was made, its lists in memory. -/
structure DeedMem (w : World) (x : DE) (A4 : Option Addr) (c4 : Nat) (A6 : Option Addr) (c6 : Nat) : Prop where
  r4 : kC.R 83 w 0 (fun _ => True) (.slice A4 x.f4.length c4) x.f4
  r6 : kI.R 3 w 0 (fun _ => True) (.slice A6 x.f6.length c6) x.f6
theorem DeedMem.fr0 {w w' : World} {x : DE} {A4 : Option Addr} {c4 : Nat} {A6 : Option Addr} {c6 : Nat} (h : DeedMem w x A4 c4 A6 c6) (f : Fr [] w w') : DeedMem w' x A4 c4 A6 c6 := ⟨R_fr0 h.r4 f, R_fr0 h.r6 f⟩
theorem DeedMem.M {w : World} {x : DE} {A4 : Option Addr} {c4 : Nat} {A6 : Option Addr} {c6 : Nat} (h : DeedMem w x A4 c4 A6 c6) : kD.M w 0 (fun k => some k ≠ some w.heap.size) x [.string x.f0, .string x.f1, .string x.f2, .string x.f3, .slice A4 x.f4.length c4, .int .i64 x.f5, .slice A6 x.f6.length c6] :=
  M_new (kD_mk x (ros_of_R h.r4) (ros_of_R h.r6))
theorem deed_mk (x : DE) (hx : cirruslaw10_deed.f x.f0 x.f1 x.f2 x.f5 = some (x.f0, x.f1, x.f2, x.f3, x.f4, x.f5, x.f6)) (w : World) :
    Calls Try.prog 21 #[.string x.f0, .string x.f1, .string x.f2, .int .i64 x.f5] w fun e w' => ∃ A4 c4 A6 c6, e = .returned (deedV x A4 c4 A6 c6) ∧ DeedMem w' x A4 c4 A6 c6 ∧ Fr [] w w' := by
  refine (cirruslaw10_deed.calls x.f0 x.f1 x.f2 x.f5 _ _ _ _ _ _ _ w hx).mono fun e w' ⟨v4, v6, he, r4, r6, hb⟩ => ?_
  obtain ⟨A4, c4, rfl⟩ := Kd.R_slice r4
  obtain ⟨A6, c6, rfl⟩ := Kd.R_slice r6
  exact ⟨A4, c4, A6, c6, he, ⟨Kd.R_lower r4 (Nat.zero_le _), Kd.R_lower r6 (Nat.zero_le _)⟩, Fr.of_below hb⟩
/-- A list of one deed. -/
theorem list_one {w : World} {x : DE} {A4 : Option Addr} {c4 : Nat} {A6 : Option Addr} {c6 : Nat} (h : DeedMem w x A4 c4 A6 c6) (hi : DeedIn x) :
    ListIn (w.alloc (.cells #[.string x.f0, .string x.f1, .string x.f2, .string x.f3, .slice A4 x.f4.length c4, .int .i64 x.f5, .slice A6 x.f6.length c6] 31)) (some ⟨w.heap.size, 0, none⟩) 1 [x] := by
  have hr : Reps (kD.M w 0 (fun k => some k ≠ some w.heap.size)) kD.sz [x] [.string x.f0, .string x.f1, .string x.f2, .string x.f3, .slice A4 x.f4.length c4, .int .i64 x.f5, .slice A6 x.f6.length c6] := by
    have := (Reps.none (kD.M w 0 (fun k => some k ≠ some w.heap.size)) kD.sz).snoc h.M rfl
    simpa using this
  have r := lit_rows kD 31 w [x] _ (by simp) hr
  obtain ⟨-, -, hC⟩ := Kd.R_reads' r
  exact ⟨hC, by simp, by simpa using hi⟩
theorem list_two {w : World} {x y : DE} {A4 : Option Addr} {c4 : Nat} {A6 : Option Addr} {c6 : Nat} {B4 : Option Addr} {b4 : Nat} {B6 : Option Addr} {b6 : Nat} (h : DeedMem w x A4 c4 A6 c6) (h' : DeedMem w y B4 b4 B6 b6) (hi : DeedIn x) (hi' : DeedIn y) :
    ListIn (w.alloc (.cells #[.string x.f0, .string x.f1, .string x.f2, .string x.f3, .slice A4 x.f4.length c4, .int .i64 x.f5, .slice A6 x.f6.length c6, .string y.f0, .string y.f1, .string y.f2, .string y.f3, .slice B4 y.f4.length b4, .int .i64 y.f5, .slice B6 y.f6.length b6] 31)) (some ⟨w.heap.size, 0, none⟩) 2 [x, y] := by
  have hr : Reps (kD.M w 0 (fun k => some k ≠ some w.heap.size)) kD.sz [x, y] [.string x.f0, .string x.f1, .string x.f2, .string x.f3, .slice A4 x.f4.length c4, .int .i64 x.f5, .slice A6 x.f6.length c6, .string y.f0, .string y.f1, .string y.f2, .string y.f3, .slice B4 y.f4.length b4, .int .i64 y.f5, .slice B6 y.f6.length b6] := by
    have := ((Reps.none (kD.M w 0 (fun k => some k ≠ some w.heap.size)) kD.sz).snoc h.M rfl).snoc h'.M rfl
    simpa using this
  have r := lit_rows kD 31 w [x, y] _ (by simp) hr
  obtain ⟨-, -, hC⟩ := Kd.R_reads' r
  exact ⟨hC, by simp, by simp [hi, hi']⟩

/-! ### awake, plain -/
def sA : ByteArray := ⟨#[97]⟩
def sT : ByteArray := ⟨#[116]⟩
def sE : ByteArray := ⟨#[]⟩
def dA : DE := ⟨kCreate, sA, sE, sE, [], 2, []⟩
def dT : DE := ⟨kCreate, sA, sT, sE, [⟨sA, 2⟩], 9, []⟩
def dX : DE := ⟨kDrop, sA, sE, sE, [], 0, []⟩
def dU : DE := ⟨kUndrop, sA, sE, sE, [], 0, []⟩
def aw1 : List ST := (commitBy Cat.new [dA, dT] 5).2
def aw2 : List ST := (commitBy aw1 [dX] 7).2
def aw3 : List ST := (commitBy aw2 [dU] 10).2
def aw4 : List ST := (commitBy aw2 [dU] 9).2
theorem aw1_is : (commitBy Cat.new [dA, dT] 5).1 = (1, 0) := by decide +kernel
theorem aw2_is : (commitBy aw1 [dX] 7).1 = (2, 0) := by decide +kernel
theorem aw3_is : (commitBy aw2 [dU] 10).1 = (0, 9) := by decide +kernel
theorem aw4_is : (commitBy aw2 [dU] 9).1 = (3, 0) := by decide +kernel
theorem aw_find : (findBy aw4 3 sA sT).2 = 0 ∧ (findBy aw4 3 sA sT).1.f0 = 2 ∧ (findBy aw4 3 sA sT).1.f6 = 1 := by decide +kernel
theorem aw_gone : (findBy aw3 2 sA sT).2 = 4 := by decide +kernel
theorem aw_list : (listBy aw3 1).1.length = 2 ∧ (listBy aw3 1).2 = 0 := by decide +kernel
theorem in_dA : DeedIn dA := ⟨by decide, by decide, by decide, by decide, by simp [dA], by decide⟩
theorem in_dT : DeedIn dT := ⟨by decide, by decide, by decide, by decide, by simp [dT]; decide, by decide⟩
theorem in_dX : DeedIn dX := ⟨by decide, by decide, by decide, by decide, by simp [dX], by decide⟩
theorem in_dU : DeedIn dU := ⟨by decide, by decide, by decide, by decide, by simp [dU], by decide⟩
theorem aw1_pos : 0 < aw1.length := by decide +kernel
theorem aw2_pos : 0 < aw2.length := by decide +kernel
theorem aw1_ok : CatOk aw1 := commit_ok new_ok (by decide) (by simp [in_dA, in_dT])
theorem aw2_ok : CatOk aw2 := commit_ok aw1_ok aw1_pos (by simp [in_dX])
theorem aw3_ok : CatOk aw3 := commit_ok aw2_ok aw2_pos (by simp [in_dU])
theorem aw4_ok : CatOk aw4 := commit_ok aw2_ok aw2_pos (by simp [in_dU])
theorem mk_dA : cirruslaw10_deed.f dA.f0 dA.f1 dA.f2 dA.f5 = some (dA.f0, dA.f1, dA.f2, dA.f3, dA.f4, dA.f5, dA.f6) := by
  unfold cirruslaw10_deed.f; rw [if_pos (by decide +kernel), if_pos (by decide +kernel)]; rfl
theorem mk_dT : cirruslaw10_deed.f dT.f0 dT.f1 dT.f2 dT.f5 = some (dT.f0, dT.f1, dT.f2, dT.f3, dT.f4, dT.f5, dT.f6) := by
  unfold cirruslaw10_deed.f; rw [if_pos (by decide +kernel), if_neg (by decide +kernel)]; rfl
theorem mk_dX : cirruslaw10_deed.f dX.f0 dX.f1 dX.f2 dX.f5 = some (dX.f0, dX.f1, dX.f2, dX.f3, dX.f4, dX.f5, dX.f6) := by
  unfold cirruslaw10_deed.f; rw [if_neg (by decide +kernel)]; rfl
theorem mk_dU : cirruslaw10_deed.f dU.f0 dU.f1 dU.f2 dU.f5 = some (dU.f0, dU.f1, dU.f2, dU.f3, dU.f4, dU.f5, dU.f6) := by
  unfold cirruslaw10_deed.f; rw [if_neg (by decide +kernel)]; rfl
end Go.Proofs.Ytcfgcmjnailndaa

namespace Go.Proofs.Ytcfgcmjnailndaa
open Go.RowKit Go.Proofs.Ytcfgcmjnailndaa.PCatalogKept Go.Proofs.YtcfgcmjnailndaaW.PrintWords Go.Proofs.YtcfgcmjnailndaaW.PrintLast Go.Proofs.YtcfgcmjnailndaaW.PrintMore

theorem awk_deed (x : DE) (op base table : ByteArray) (keep : Int) (e0 : op = x.f0) (e1 : base = x.f1) (e2 : table = x.f2) (e3 : keep = x.f5) (hx : cirruslaw10_deed.f x.f0 x.f1 x.f2 x.f5 = some (x.f0, x.f1, x.f2, x.f3, x.f4, x.f5, x.f6)) (w : World) :
    Calls Try.prog 21 #[.string op, .string base, .string table, .int .i64 keep] w fun e w' => ∃ A4 c4 A6 c6, e = .returned (deedV x A4 c4 A6 c6) ∧ DeedMem w' x A4 c4 A6 c6 ∧ Fr [] w w' := by
  subst e0 e1 e2 e3
  exact deed_mk x hx w
set_option maxRecDepth 100000 in
set_option maxHeartbeats 8000000 in
theorem awake_any (w : World) :
    Calls Try.prog 9 #[] w fun e w' => e = .returned (.bool true) ∧ Fr [] w w' := by
  go_enter Try.func9, Try.ntmps9
  dsimp only [List.append]
  go_wp2_with fail
  refine (new_any _).mono ?_
  rintro e w1 ⟨cb, v0, rfl, hc, f1, hcb, hown⟩
  have L1 : Hid (Live w w1 cb v0 Cat.new) := hid ⟨hc, hcb, hown⟩
  have F1 := hid f1
  clear hc f1 hcb hown
  go_wp2_with fail
  refine (awk_deed dA _ _ _ _ rfl rfl rfl rfl mk_dA _).mono ?_
  rintro e w2 ⟨A4, c4, A6, c6, rfl, d1, f2⟩
  have D1 := hid d1
  have F2 := hid (F1.out.then f2)
  have L2 := hid (L1.out.fr0 f2)
  clear d1 f2 L1 F1
  unfold deedV
  go_wp2_with fail
  refine (awk_deed dT _ _ _ _ rfl rfl rfl rfl mk_dT _).mono ?_
  rintro e w3 ⟨B4, b4, B6, b6, rfl, d2, f3⟩
  have LI := hid (list_two (D1.out.fr0 f3) d2 in_dA in_dT)
  have F3 := hid (F2.out.then f3)
  have L3 := hid (L2.out.fr0 f3)
  clear d2 f3 L2 F2 D1
  unfold deedV
  go_wp2_with fail
  refine (committed cb v0 Cat.new _ 2 [dA, dT] 5 _ (L3.out.fr0 ((Fr.refl [] w3).alloc _)).cat LI.out).mono ?_
  intro e w4 hq
  obtain ⟨he, -, hff, v1, hlv, -⟩ := (L3.out.fr0 ((Fr.refl [] w3).alloc _)).commit (F3.out.alloc _) hq
  rw [aw1_is] at he
  subst he
  have L4 : Hid (Live w w4 cb v1 aw1) := hid hlv
  have F4 := hid hff
  clear hq hlv hff LI L3 F3
  go_wp2_with fail
  refine (awk_deed dX _ _ _ _ rfl rfl rfl rfl mk_dX _).mono ?_
  rintro e w5 ⟨A4, c4, A6, c6, rfl, d1, f1⟩
  have LI := hid (list_one d1 in_dX)
  have F5 := hid (F4.out.then f1)
  have L5 := hid (L4.out.fr0 f1)
  clear d1 f1 L4 F4
  unfold deedV
  go_wp2_with fail
  refine (committed cb v1 aw1 _ 1 [dX] 7 _ (L5.out.fr0 ((Fr.refl [] w5).alloc _)).cat LI.out).mono ?_
  intro e w6 hq
  obtain ⟨he, -, hff, v2, hlv, -⟩ := (L5.out.fr0 ((Fr.refl [] w5).alloc _)).commit (F5.out.alloc _) hq
  rw [aw2_is] at he
  subst he
  have L6 : Hid (Live w w6 cb v2 aw2) := hid hlv
  have F6 := hid hff
  clear hq hlv hff LI L5 F5
  go_wp2_with fail
  refine (clone_any cb v2 aw2 _ L6.out.cat).mono ?_
  rintro e w7 ⟨db, u2, rfl, hc, f7, hdb, hown⟩
  have D7 : Hid (Live w w7 db u2 aw2) := hid (Live.after ⟨hc, hdb, hown⟩ F6.out)
  have AP : Hid (Apart2 cb v2 db u2) := hid ⟨by have := L6.out.cat.lt; omega, fun k hk h2 => by have := Kd.R_lt L6.out.cat.row k hk; have := hown k h2; omega⟩
  have L7 := hid (L6.out.fr0 f7)
  have F7 := hid (F6.out.then f7)
  clear hc f7 hdb hown L6 F6
  go_wp2_with fail
  refine (awk_deed dU _ _ _ _ rfl rfl rfl rfl mk_dU _).mono ?_
  rintro e w8 ⟨A4, c4, A6, c6, rfl, d1, f1⟩
  have LI := hid (list_one d1 in_dU)
  have F8 := hid (F7.out.then f1)
  have L8 := hid (L7.out.fr0 f1)
  have D8 := hid (D7.out.fr0 f1)
  clear d1 f1 L7 F7
  unfold deedV
  go_wp2_with fail
  refine (committed cb v2 aw2 _ 1 [dU] 10 _ (L8.out.fr0 ((Fr.refl [] w8).alloc _)).cat LI.out).mono ?_
  intro e w9 hq
  obtain ⟨he, hf3, hff, v3, hlv, hov⟩ := (L8.out.fr0 ((Fr.refl [] w8).alloc _)).commit (F8.out.alloc _) hq
  rw [aw3_is] at he
  subst he
  have L9 : Hid (Live w w9 cb v3 aw3) := hid hlv
  have D9 : Hid (Live w w9 db u2 aw2) := hid ((D8.out.fr0 ((Fr.refl [] w8).alloc _)).other (L8.out.fr0 ((Fr.refl [] w8).alloc _)).cat AP.out hf3)
  have AP9 : Hid (Apart2 cb v3 db u2) := hid (AP.out.grown (D8.out.fr0 ((Fr.refl [] w8).alloc _)).cat hov)
  have F9 := hid hff
  clear hq hlv hff hf3 hov LI L8 F8 D7 D8 AP
  go_wp2_with fail
  refine (awk_deed dU _ _ _ _ rfl rfl rfl rfl mk_dU _).mono ?_
  rintro e w10 ⟨A4, c4, A6, c6, rfl, d1, f1⟩
  have LI := hid (list_one d1 in_dU)
  have F10 := hid (F9.out.then f1)
  have L10 := hid (L9.out.fr0 f1)
  have D10 := hid (D9.out.fr0 f1)
  clear d1 f1 L9 F9
  unfold deedV
  go_wp2_with fail
  refine (committed db u2 aw2 _ 1 [dU] 9 _ (D10.out.fr0 ((Fr.refl [] w10).alloc _)).cat LI.out).mono ?_
  intro e w11 hq
  obtain ⟨he, hf3, hff, u3, hlv, hov⟩ := (D10.out.fr0 ((Fr.refl [] w10).alloc _)).commit (F10.out.alloc _) hq
  rw [aw4_is] at he
  subst he
  have D11 : Hid (Live w w11 db u3 aw4) := hid hlv
  have L11 : Hid (Live w w11 cb v3 aw3) := hid ((L10.out.fr0 ((Fr.refl [] w10).alloc _)).other (D10.out.fr0 ((Fr.refl [] w10).alloc _)).cat ⟨AP9.out.cb.symm, fun k h1 h2 => AP9.out.own k h2 h1⟩ hf3)
  have F11 := hid hff
  clear hq hlv hff hf3 hov LI L10 F10 D9 D10 AP9
  go_wp2_with fail
  refine (found_any db u3 aw4 3 sA sT _ D11.out.cat aw4_ok (by decide) (by decide)).mono ?_
  rintro e w12 ⟨P3, p3, P4, p4, he, -, -, f12⟩
  have L12 := hid (L11.out.fr0 f12)
  have F12 := hid (F11.out.then f12)
  obtain ⟨g1, g2, g3⟩ := aw_find
  unfold apiV at he
  rw [g1, g2, g3] at he
  subst he
  clear f12 g1 g2 g3 L11 F11 D11
  go_wp2_with fail
  have L13 := hid (L12.out.fr0 ((Fr.refl [] w12).alloc (.cells #[.int .i64 2, .string (findBy aw4 3 sA sT).1.f1, .string (findBy aw4 3 sA sT).1.f2, .slice P3 (findBy aw4 3 sA sT).1.f3.length p3, .slice P4 (findBy aw4 3 sA sT).1.f4.length p4, .int .i64 (findBy aw4 3 sA sT).1.f5, .int .i64 1, .int .i64 (findBy aw4 3 sA sT).1.f7, .int .i64 (findBy aw4 3 sA sT).1.f8] 49)))
  have F13 := hid (F12.out.alloc (.cells #[.int .i64 2, .string (findBy aw4 3 sA sT).1.f1, .string (findBy aw4 3 sA sT).1.f2, .slice P3 (findBy aw4 3 sA sT).1.f3.length p3, .slice P4 (findBy aw4 3 sA sT).1.f4.length p4, .int .i64 (findBy aw4 3 sA sT).1.f5, .int .i64 1, .int .i64 (findBy aw4 3 sA sT).1.f7, .int .i64 (findBy aw4 3 sA sT).1.f8] 49))
  have B13 := hid (heap_alloc_new w12 (.cells #[.int .i64 2, .string (findBy aw4 3 sA sT).1.f1, .string (findBy aw4 3 sA sT).1.f2, .slice P3 (findBy aw4 3 sA sT).1.f3.length p3, .slice P4 (findBy aw4 3 sA sT).1.f4.length p4, .int .i64 (findBy aw4 3 sA sT).1.f5, .int .i64 1, .int .i64 (findBy aw4 3 sA sT).1.f7, .int .i64 (findBy aw4 3 sA sT).1.f8] 49))
  refine (found_any cb v3 aw3 2 sA sT _ L13.out.cat aw3_ok (by decide) (by decide)).mono ?_
  rintro e w14 ⟨Q3, q3, Q4, q4, he, -, -, f14⟩
  have L14 := hid (L13.out.fr0 f14)
  have F14 := hid (F13.out.then f14)
  have B14 := hid (f14.blk B13.out (by simp))
  unfold apiV at he
  rw [aw_gone] at he
  subst he
  clear f14 L12 F12 L13 F13 B13
  go_wp2_with fail
  refine (list_any cb v3 aw3 1 _ (L14.out.fr0 ((Fr.refl [] w14).alloc _)).cat aw3_ok).mono ?_
  rintro e w15 ⟨uu, he, hr, f15, -⟩
  have F15 := hid ((F14.out.alloc _).then f15)
  have B15 := hid (f15.blk (((Fr.refl [] w14).alloc _).blk B14.out (by simp)) (by simp))
  obtain ⟨U, uc, rfl⟩ := Kd.R_slice hr
  rw [aw_list.1, aw_list.2] at he
  subst he
  clear hr f15 L14 F14 B14
  go_wp2_with fail
  refine (commit_nil _ _ _).mono ?_
  rintro e w16 ⟨rfl, rfl⟩
  have n0 := cell_of_row w15 w12.heap.size 0 _ _ _ B15.out
  have n6 := cell_of_row w15 w12.heap.size 6 _ _ _ B15.out
  have z0 : (w15.alloc (.cells #[.slice none 0 0] 58)).cell? ⟨w15.heap.size, 0, none⟩ = some (.slice none 0 0) := cell_of_row _ _ 0 _ _ _ (heap_alloc_new w15 _)
  have hlt := cell_block n0
  simp at n0 n6
  have TZ := hid (time_zero w15.heap.size 1 _ z0)
  have CZ := hid (clone_zero w15.heap.size _ z0)
  go_wp2_with (first
    | (go_at_call 24; refine TZ.out.mono ?_; rintro e w17 ⟨rfl, rfl⟩)
    | (go_at_call 13; refine (count_nil _).mono ?_; rintro e w17 ⟨rfl, rfl⟩)
    | (go_at_call 15; refine CZ.out.mono ?_; rintro e w17 ⟨rfl, rfl⟩))
  go_ret
  exact ⟨rfl, F15.out.alloc _⟩
end Go.Proofs.Ytcfgcmjnailndaa

namespace Go.Proofs.Ytcfgcmjnailndaa
open Go.RowKit Go.Proofs.Ytcfgcmjnailndaa.PCatalogKept Go.Proofs.YtcfgcmjnailndaaW.PrintWords Go.Proofs.YtcfgcmjnailndaaW.PrintLast Go.Proofs.YtcfgcmjnailndaaW.PrintMore

theorem lists_fr {w w' : World} {cb : Nat} {v u : Value} {ss : List ST} {ls : List (List AE)} (h : kL.R 37 w 0 (fun _ => True) u ls) (hc : CatAt w cb v ss) (f : Fr (cb :: v.ownBlock.toList) w w') : kL.R 37 w' 0 (fun _ => True) u ls :=
  R_fr h f (hc.noT (by decide))
theorem new_len (l : List SP) : (runBy Cat.new l).length ≤ 1 + l.length := by have := run_len l Cat.new; simpa [Cat.new] using this
theorem made_ok {l : List SP} (h : Played l) : CatOk (runBy Cat.new l) := run_ok l _ new_ok (by decide) h.ok
theorem made_pos (l : List SP) : 0 < (runBy Cat.new l).length := run_pos (by decide)
theorem run_all (ss : List ST) (l : List SP) : ∃ t, (runBy ss l).map allOf = ss.map allOf ++ t := by
  obtain ⟨t, ht⟩ := run_pre l ss
  exact ⟨t.map allOf, by rw [ht, List.map_append]⟩

set_option maxRecDepth 100000 in
set_option maxHeartbeats 8000000 in
theorem kept_any (A0 : Option Addr) (c0 : Nat) (l : List SP) (A1 : Option Addr) (c1 : Nat) (more : List SP) (w : World) (h0 : StepsRaw w A0 c0 l) (h1 : StepsRaw w A1 c1 more) :
    Calls Try.prog 4 #[.slice A0 l.length c0, .slice A1 more.length c1] w fun e w' => e = .returned (.bool true) ∧ Fr [] w w' := by
  have H0 := hid h0
  have H1 := hid h1
  clear h0 h1
  go_enter Try.func4, Try.ntmps4
  go_wp2_with fail
  refine (great_of H0.out).mono ?_
  rintro e w1 ⟨r, rfl, hp, f1⟩
  have F1 := hid f1
  have HP := hid hp
  clear f1 hp
  cases r with
  | true =>
    go_wp2_with (go_at_call 9; refine (awake_any _).mono ?_; rintro e w2 ⟨rfl, f2⟩)
    go_ret
    exact ⟨rfl, F1.out.then f2⟩
  | false =>
    have P0 := hid (HP.out rfl)
    clear HP
    go_wp2_with fail
    refine (great_of (H1.out.fr F1.out)).mono ?_
    rintro e w2 ⟨r, rfl, hp, f2⟩
    have F2 := hid (F1.out.then f2)
    have HP := hid hp
    clear f2 hp F1
    cases r with
    | true =>
      go_wp2_with (go_at_call 9; refine (awake_any _).mono ?_; rintro e w3 ⟨rfl, f3⟩)
      go_ret
      exact ⟨rfl, F2.out.then f3⟩
    | false =>
      have P1 := hid (HP.out rfl)
      clear HP
      obtain ⟨ss, hss⟩ : ∃ ss, ss = runBy Cat.new l := ⟨_, rfl⟩
      have hl20 := P0.out.len
      have hm20 := P1.out.len
      have hsl : ss.length ≤ 21 := by rw [hss]; have := new_len l; omega
      have hspos : 0 < ss.length := by rw [hss]; exact made_pos l
      have SOK : Hid (CatOk ss) := hid (by rw [hss]; exact made_ok P0.out)
      have HSS := hid hss
      clear hss
      go_wp2_with fail
      refine (made_any A0 c0 l _ ((H0.out.ok P0.out).fr F2.out)).mono ?_
      rintro e w3 ⟨cb, v, rfl, hlv, f3⟩
      rw [← HSS.out] at hlv
      have L3 := hid (hlv.after F2.out)
      have F3 := hid (F2.out.then f3)
      clear hlv f3 F2
      go_wp2_with fail
      refine (clone_any cb v ss _ L3.out.cat).mono ?_
      rintro e w4 ⟨db, u2, rfl, hc, f4, hdb, hown⟩
      have D4 : Hid (Live w w4 db u2 ss) := hid (Live.after ⟨hc, hdb, hown⟩ F3.out)
      have AP4 : Hid (Apart2 cb v db u2) := hid ⟨by have := L3.out.cat.lt; omega, fun k hk h2 => by have := Kd.R_lt L3.out.cat.row k hk; have := hown k h2; omega⟩
      have L4 := hid (L3.out.fr0 f4)
      have F4 := hid (F3.out.then f4)
      clear hc f4 hdb hown L3 F3
      obtain ⟨T, hT⟩ : ∃ T, T = ss.map allOf := ⟨_, rfl⟩
      have hTl : T.length = ss.length := by rw [hT]; simp
      have HTL := hid hTl
      have HT := hid hT
      clear hTl hT
      go_wp2_with fail
      refine (states_any cb v ss _ L4.out.cat SOK.out (by omega)).mono ?_
      rintro e w5 ⟨uo, rfl, ho, f5, -⟩
      rw [← HT.out] at ho
      obtain ⟨A7, c7, e7⟩ := Kd.R_slice ho
      rw [HTL.out] at e7
      subst e7
      have O5 := hid ho
      have L5 := hid (L4.out.fr0 f5)
      have D5 := hid (D4.out.fr0 f5)
      have F5 := hid (F4.out.then f5)
      clear ho f5 L4 D4 F4
      go_wp2
      go_loopw [8] (fun i wr => ∃ (j : Nat) (v' : Value), i = .int .i64 j ∧ j ≤ more.length ∧ Live w wr cb v' (runBy ss (more.take j)) ∧ Live w wr db u2 ss ∧ Apart2 cb v' db u2 ∧ kL.R 37 wr 0 (fun _ => True) (.slice A7 ss.length c7) T ∧ Fr [] w wr) (fun i _ => more.length - (intOf i).toNat)
      case atStart => exact ⟨0, v, rfl, Nat.zero_le _, L5.out, D5.out, AP4.out, O5.out, F5.out⟩
      case round =>
        obtain ⟨j, v', rfl, hj, hL, hD, hA, hO, hF⟩ := hrel
        have HL := hid hL
        have HD := hid hD
        have HA := hid hA
        have HO := hid hO
        have HF := hid hF
        clear hL hD hA hO hF
        by_cases hlt : j < more.length
        · obtain ⟨x, hx⟩ : ∃ x, more[j]? = some x := ⟨_, List.getElem?_eq_getElem hlt⟩
          obtain ⟨b, off, B0, b0, eA, m0, m1, hb0, hCx⟩ := steps_at ((H1.out.ok P1.out).fr HF.out).row hx
          subst eA
          have LI := hid (((H1.out.ok P1.out).fr HF.out).deeds (c0 := b0) hx hCx)
          have HX := hid hx
          have hm0 : (0 : Int) ≤ (j : Int) := by omega
          have hm1 : (j : Int) < (more.length : Int) := by omega
          clear hx hCx
          go_wp2_with fail
          go_still_tail 11, (by kernel_rfl)
          change wpList _ _ _ _ _ wr.drew
          go_wp2_with (go_at_call 11; refine (committed cb v' _ B0 b0 x.f0 x.f1 wr.drew (HL.out.fr0 (Fr.refl [] wr).drew).cat (LI.out.below (Fr.refl [] wr).drew)).mono ?_; intro e w6 hq; obtain ⟨rfl, hf3, hff, v6, hlv, hov⟩ := (HL.out.fr0 (Fr.refl [] wr).drew).commit HF.out.drew hq; have F6 := hid hff; have L6 := hid hlv; have D6 := hid ((HD.out.fr0 (Fr.refl [] wr).drew).other (HL.out.fr0 (Fr.refl [] wr).drew).cat HA.out hf3); have A6 := hid (HA.out.grown (HD.out.fr0 (Fr.refl [] wr).drew).cat hov); have O6 := hid (lists_fr (R_fr0 HO.out (Fr.refl [] wr).drew) (HL.out.fr0 (Fr.refl [] wr).drew).cat hf3); clear hq hf3 hff hlv hov)
          go_roundw
          case rel => exact ⟨j + 1, v6, by go_num, by omega, by rw [run_take HX.out]; exact L6.out, D6.out, A6.out, O6.out, F6.out⟩
          case measure => simp [intOf]; omega
        · obtain rfl : j = more.length := by omega
          have hL := HL.out
          rw [List.take_length] at hL
          have HL2 := hid hL
          have hrl : (runBy ss more).length ≤ 100 := by have := run_len more ss; omega
          obtain ⟨t, ht⟩ := run_all ss more
          rw [← HT.out] at ht
          have ROK := hid (run_ok more ss SOK.out hspos P1.out.ok)
          have BC := hid (fun (W : World) (f : Fr [] wr W) => begins_any cb v' (runBy ss more) (.slice A7 ss.length c7) T t W (HL2.out.cat.fr0 f) ROK.out hrl (R_fr0 HO.out f) ht)
          have BD := hid (fun (W : World) (f : Fr [] wr W) => begins_any db u2 ss (.slice A7 ss.length c7) T [] W (HD.out.cat.fr0 f) SOK.out (by omega) (R_fr0 HO.out f) (by rw [HT.out, List.append_nil]))
          obtain ⟨g2, cc, hu2, -, -⟩ := HD.out.cat.form
          subst hu2
          have CN := hid (fun (W : World) (f : Fr [] wr W) => count_yes db _ ss.length cc W (HD.out.cat.fr0 f).c0 hspos (by omega))
          clear hL ht hrl
          go_wp2_with (first
            | (go_at_call 17; with_reducible refine (BC.out _ (Fr.refl _ _)).mono ?_; rintro e w7 ⟨rfl, f7⟩; have F7 := hid f7; clear f7)
            | (go_at_call 17; with_reducible refine (BD.out _ F7.out).mono ?_; rintro e w8 ⟨rfl, f8⟩; have F8 := hid (F7.out.then f8); clear f8)
            | (go_at_call 13; refine (CN.out _ F8.out).mono ?_; rintro e w9 ⟨rfl, rfl⟩)
            | (go_at_call 9; refine (awake_any _).mono ?_; rintro e w9 ⟨rfl, f9⟩; have F9 := hid (F8.out.then f9); clear f9))
          go_ret
          exact ⟨rfl, HF.out.then F9.out⟩
end Go.Proofs.Ytcfgcmjnailndaa
