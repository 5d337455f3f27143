/-
  A list that is not great: its bounds.
  Plain: what commits keep of the entries' lists; a run of steps.
  Plain: what holds of all entries of all states.
  Plain: each deed keeps what holds of all entries.
  Plain: drop, undrop, rename, swap keep what holds of all entries.
  Plain: undrop, rename, swap keep what holds of all entries; commits do.
-/
import Derived.Test.YtcfgcmjnailndaaPCatalogKeptx2
import Derived.Test.YtcfgcmjnailndaaKd12
import Derived.Test.YtcfgcmjnailndaaKd15
import Derived.Test.YtcfgcmjnailndaaKd3
namespace Go.Proofs.Ytcfgcmjnailndaa
open Go.RowKit Go.Proofs.Ytcfgcmjnailndaa.PCatalogKept Go.Proofs.YtcfgcmjnailndaaW.PrintWords Go.Proofs.YtcfgcmjnailndaaW.PrintLast Go.Proofs.YtcfgcmjnailndaaW.PrintMore
def FewFiles (x : DE) : Prop := x.f6.length ≤ 5000
def sumFrom (l : List SP) (i : Nat) : Nat := ((l.drop i).map fun x => min x.f0.length 1000).sum
def NotGreat (l : List SP) (n i : Nat) : Prop := l.length ≤ 20 ∧ n + sumFrom l i ≤ 150 ∧ ∀ j x, i ≤ j → l[j]? = some x → ∀ m y, m < 1000 → x.f0[m]? = some y → FewFiles y
theorem rdP {l : List SP} {i : Nat} {x : SP} (h : l[i]? = some x) : rd_T25 l (i : Int) = x := by
 unfold rd_T25; simp [List.getD_eq_getElem?_getD, h]
theorem rdJ {l : List DE} {i : Nat} {x : DE} (h : l[i]? = some x) : rd_T31 l (i : Int) = x := by
 unfold rd_T31; simp [List.getD_eq_getElem?_getD, h]
theorem sum_step {l : List SP} {i : Nat} {x : SP} (h : l[i]? = some x) : sumFrom l i = min x.f0.length 1000 + sumFrom l (i + 1) := by
 obtain ⟨hi, he⟩ := List.getElem?_eq_some_iff.1 h
 unfold sumFrom
 rw [List.drop_eq_getElem_cons hi, he]
 simp
theorem great_l1 {l : List SP} {i : Nat} {x : SP} (hx : l[i]? = some x) (n : Int) (R : Bool → Prop) (_hlen : x.f0.length ≤ 9223372036854775807)
  (hnext : ∃ k r, cirruslaw10_great.l0 k l n (wrap64 ((i : Int) + 1)) = some r ∧ R r) (htrue : R true) :
  ∀ (d j : Nat), j ≤ x.f0.length → x.f0.length - j = d → (∀ m y, m < j → m < 1000 → x.f0[m]? = some y → FewFiles y) →
  ∃ k r, cirruslaw10_great.l1 k l n i j = some r ∧ (R r ∧ (r = true ∨ ∀ m y, m < 1000 → x.f0[m]? = some y → FewFiles y)) := by
 obtain ⟨hi, -⟩ := List.getElem?_eq_some_iff.1 hx
 have hq : ∀ j, x.f0.length ≤ j ∨ 1000 ≤ j → (∀ m y, m < j → m < 1000 → x.f0[m]? = some y → FewFiles y) → ∃ k r, cirruslaw10_great.l1 k l n i j = some r ∧ (R r ∧ (r = true ∨ ∀ m y, m < 1000 → x.f0[m]? = some y → FewFiles y)) := by
  intro j hj hb
  obtain ⟨k, r, hk, hr⟩ := hnext
  refine ⟨k + 2, r, ?_, hr, .inr fun m y hm hy => hb m y ?_ hm hy⟩
  ·unfold cirruslaw10_great.l1
   rw [if_pos (by omega), if_pos (by omega), rdP hx]
   rcases hj with hj | hj
   ·rw [if_neg (by omega)]
    unfold cirruslaw10_great.j3
    rw [if_neg (by simp)]
    exact hk
   ·by_cases hj2 : (j : Int) < (x.f0.length : Int)
    ·rw [if_pos hj2]
     unfold cirruslaw10_great.j3
     rw [if_neg (by simp; omega)]
     exact hk
    ·rw [if_neg hj2]
     unfold cirruslaw10_great.j3
     rw [if_neg (by simp)]
     exact hk
  ·have := (List.getElem?_eq_some_iff.1 hy).1
   omega
 intro d
 induction d with
 | zero => exact fun j hj hd hb => hq j (.inl (by omega)) hb
 | succ d ih =>
  intro j hj hd hb
  by_cases hj1 : 1000 ≤ j
  ·exact hq j (.inr hj1) hb
  obtain ⟨y, hy⟩ : ∃ y, x.f0[j]? = some y := ⟨_, List.getElem?_eq_getElem (by omega)⟩
  by_cases hf : FewFiles y ∧ ¬ (200 < y.f6.length ∧ y.f6.length ≤ 4000)
  ·obtain ⟨k, r, hk, hr⟩ := ih (j + 1) (by omega) (by omega) (fun m z hm hm2 hz => by
    rcases Nat.lt_succ_iff_lt_or_eq.1 hm with h | rfl
    ·exact hb m z h hm2 hz
    ·rw [hy] at hz; cases hz; exact hf.1)
   refine ⟨k + 2, r, ?_, hr⟩
   unfold cirruslaw10_great.l1
   rw [if_pos (by omega), if_pos (by omega), rdP hx, if_pos (by omega)]
   unfold cirruslaw10_great.j3
   obtain ⟨hf1, hf2⟩ := hf
   unfold FewFiles at hf1
   have hw : wrap64 ((j : Int) + 1) = ((j + 1 : Nat) : Int) := wrap_id (by omega) (by omega)
   rw [if_pos (by simp; omega), if_pos (by omega), if_pos (by omega), if_pos (by omega), rdP hx, if_pos (by omega), rdJ hy, hw]
   by_cases h2 : (y.f6.length : Int) > 200
   ·rw [if_pos h2, if_neg (by omega), if_neg (by omega)]
    exact hk
   ·rw [if_neg h2, if_neg (by omega)]
    exact hk
  ·refine ⟨2, true, ?_, htrue, .inl rfl⟩
   unfold cirruslaw10_great.l1
   rw [if_pos (by omega), if_pos (by omega), rdP hx, if_pos (by omega)]
   unfold cirruslaw10_great.j3
   rw [if_pos (by simp; omega), if_pos (by omega), if_pos (by omega), if_pos (by omega), rdP hx, if_pos (by omega), rdJ hy]
   unfold FewFiles at hf
   by_cases h2 : (y.f6.length : Int) > 200
   ·rw [if_pos h2]
    by_cases h3 : (y.f6.length : Int) ≤ 4000
    ·rw [if_pos h3]
    ·rw [if_neg h3, if_pos (by omega)]
   ·rw [if_neg h2, if_pos (by omega)]
theorem great_l0 {l : List SP} (hl : l.length ≤ 9223372036854775807) (hls : ∀ x ∈ l, x.f0.length ≤ 9223372036854775807) :
  ∀ (d i n : Nat), i ≤ l.length → l.length - i = d → n ≤ 1000 * i → ∃ k r, cirruslaw10_great.l0 k l n i = some r ∧ (r = false → NotGreat l n i) := by
 have hend : ∀ (i n : Nat), (l.length ≤ i ∨ 20 < i) → (∃ k r, cirruslaw10_great.l0 k l n i = some r ∧ (r = false → NotGreat l n i)) := by
  intro i n hi
  by_cases h20 : (l.length : Int) > 20
  ·refine ⟨2, true, ?_, by simp⟩
   unfold cirruslaw10_great.l0
   by_cases hlt : (i : Int) < (l.length : Int)
   ·rw [if_pos hlt]
    unfold cirruslaw10_great.j1
    rw [if_neg (by simp; omega), if_pos h20]
   ·rw [if_neg hlt]
    unfold cirruslaw10_great.j1
    rw [if_neg (by simp), if_pos h20]
  ·refine ⟨2, decide ((n : Int) > 150), ?_, fun h => ?_⟩
   ·unfold cirruslaw10_great.l0
    rw [if_neg (by omega)]
    unfold cirruslaw10_great.j1
    rw [if_neg (by simp), if_neg h20]
   ·have h1 : n ≤ 150 := by have := of_decide_eq_false h; omega
    have h2 : sumFrom l i = 0 := by
     unfold sumFrom
     rw [List.drop_eq_nil_of_le (by omega)]
     rfl
    refine ⟨by omega, by omega, fun j x hj hx => ?_⟩
    have := (List.getElem?_eq_some_iff.1 hx).1
    omega
 intro d
 induction d with
 | zero => exact fun i n hi hd hn => hend i n (.inl (by omega))
 | succ d ih =>
  intro i n hi hd hn
  by_cases h20 : 20 < i
  ·exact hend i n (.inr h20)
  obtain ⟨x, hx⟩ : ∃ x, l[i]? = some x := ⟨_, List.getElem?_eq_getElem (by omega)⟩
  have hxl := hls x (List.mem_iff_getElem?.2 ⟨i, hx⟩)
  have hw : wrap64 ((i : Int) + 1) = ((i + 1 : Nat) : Int) := wrap_id (by omega) (by omega)
  have hmn : mn ((x.f0.length : Nat) : Int) 1000 = ((min x.f0.length 1000 : Nat) : Int) := by
   unfold mn; split <;> omega
  have hw2 : wrap64 ((n : Int) + mn ((x.f0.length : Nat) : Int) 1000) = ((n + min x.f0.length 1000 : Nat) : Int) := by
   rw [hmn, wrap_id (by omega) (by omega)]; omega
  obtain ⟨k, r, hk, hr, hr2⟩ := great_l1 hx (((n + min x.f0.length 1000 : Nat) : Int)) (fun r => r = false → NotGreat l (n + min x.f0.length 1000) (i + 1)) hxl
   (by rw [hw]; exact ih (i + 1) _ (by omega) (by omega) (by omega)) (by simp) _ 0 (Nat.zero_le _) rfl (fun m y hm => absurd hm (Nat.not_lt_zero _))
  refine ⟨k + 2, r, ?_, fun hrf => ?_⟩
  ·unfold cirruslaw10_great.l0
   rw [if_pos (by omega)]
   unfold cirruslaw10_great.j1
   rw [if_pos (by simp; omega), if_pos (by omega), if_pos (by omega), rdP hx, hw2]
   exact hk
  ·obtain ⟨g1, g2, g3⟩ := hr hrf
   refine ⟨g1, by rw [sum_step hx]; omega, fun j z hj hz => ?_⟩
   rcases Nat.lt_or_eq_of_le hj with hj | rfl
   ·exact g3 j z hj hz
   ·rw [hx] at hz; cases hz
    rcases hr2 with h | h
    ·rw [hrf] at h; cases h
    ·exact h
structure Played (l : List SP) : Prop where
 len : l.length ≤ 20
 deeds : ∀ x ∈ l, x.f0.length ≤ 150
 sum : (l.map fun x => x.f0.length).sum ≤ 150
 ok : ∀ x ∈ l, ∀ y ∈ x.f0, DeedIn y
theorem le_sum {l : List SP} {x : SP} (h : x ∈ l) : min x.f0.length 1000 ≤ (l.map fun x => min x.f0.length 1000).sum := by
 induction l with
 | nil => simp at h
 | cons y r ih =>
  rcases List.mem_cons.1 h with rfl | h
  ·simp
  ·have := ih h; simp; omega
theorem sum_min {l : List SP} (h : ∀ x ∈ l, x.f0.length ≤ 1000) : (l.map fun x => min x.f0.length 1000) = l.map fun x => x.f0.length := by
 apply List.map_congr_left
 intro x hx
 have := h x hx
 omega
theorem played_of {l : List SP} (h : NotGreat l 0 0) (hr : ∀ x ∈ l, StepRaw x) : Played l := by
 obtain ⟨h1, h2, h3⟩ := h
 have h2' : (l.map fun x => min x.f0.length 1000).sum ≤ 150 := by simpa [sumFrom] using h2
 have hd : ∀ x ∈ l, x.f0.length ≤ 150 := fun x hx => by have := le_sum hx; omega
 refine ⟨h1, hd, ?_, fun x hx y hy => ?_⟩
 ·rw [← sum_min (fun x hx => by have := hd x hx; omega)]; exact h2'
 ·obtain ⟨j, hj⟩ := List.mem_iff_getElem?.1 hx
  obtain ⟨m, hm⟩ := List.mem_iff_getElem?.1 hy
  have hm2 := (List.getElem?_eq_some_iff.1 hm).1
  have hf := h3 j x (Nat.zero_le _) hj m y (by have := hd x hx; omega) hm
  obtain ⟨a, b, c, d, e⟩ := hr x hx y hy
  unfold FewFiles at hf
  exact ⟨a, b, c, d, e, by omega⟩
def GreatSays (l : List SP) (w : World) (e : Ending) (w' : World) : Prop := ∃ r, e = .returned (.bool r) ∧ (r = false → Played l) ∧ Fr [] w w'
theorem great_any (A : Option Addr) (c : Nat) (l : List SP) (w : World) (hC : Kd.C kP w A l.length l) (hc : l.length ≤ c) (hr : ∀ x ∈ l, StepRaw x) (hl : l.length ≤ 9223372036854775807) (hls : ∀ x ∈ l, x.f0.length ≤ 9223372036854775807) :
  Calls Try.prog 8 #[.slice A l.length c] w (GreatSays l w) := by
 obtain ⟨k, r, hk, h⟩ := great_l0 hl hls _ 0 0 (Nat.zero_le _) rfl (Nat.zero_le _)
 exact (cirruslaw10_great.calls k A c l r w hC hc hk).mono fun e w' ⟨he, hb⟩ => ⟨r, he, fun hf => played_of (h hf) hr, Fr.of_below hb⟩
theorem all_set {Q : EN → Prop} {es : List EN} {i : Nat} {f : EN → EN} (h : ∀ y ∈ es, Q y) (hf : ∀ y, Q y → Q (f y)) : ∀ y ∈ setE es i f, Q y := by
 intro y hy
 unfold setE at hy
 by_cases hi : i < es.length
 ·rcases List.mem_or_eq_of_mem_set hy with h1 | h1
  ·exact h y h1
  ·rw [h1]
   refine hf _ (h _ ?_)
   rw [List.getD_eq_getElem?_getD, List.getElem?_eq_getElem hi]
   exact List.getElem_mem _
 ·rw [List.set_eq_of_length_le (by omega)] at hy
  exact h y hy
theorem all_map {Q : EN → Prop} {es : List EN} {home : Int} {f : EN → EN} (h : ∀ y ∈ es, Q y) (hf : ∀ y, Q y → Q (f y)) : ∀ y ∈ es.map (tabs home f), Q y := by
 intro y hy
 obtain ⟨z, hz, rfl⟩ := List.mem_map.1 hy
 unfold tabs
 split
 ·exact hf z (h z hz)
 ·exact h z hz
theorem all_if {Q : EN → Prop} {c : Prop} [Decidable c] {a b : List EN} (ha : ∀ y ∈ a, Q y) (hb : ∀ y ∈ b, Q y) : ∀ y ∈ (if c then a else b), Q y := by split <;> assumption
theorem deed_all {Q : EN → Prop} {d : Dr} {es : List EN} {x : DE} (h : ∀ y ∈ es, Q y) (hq : ∀ y y' : EN, Q y → y'.f0.f3 = y.f0.f3 → y'.f0.f4 = y.f0.f4 → Q y') (hn : ∀ hm, Q (ent0 d es x hm)) (hl : ∀ y, Q y → Q (lay1 d x y)) : ∀ y ∈ (deedBy d es x).2, Q y := by
 have hnew : ∀ hm, ∀ y ∈ es ++ [ent0 d es x hm], Q y := fun hm y hy => by
  rcases List.mem_append.1 hy with h1 | h1
  ·exact h y h1
  ·rw [List.mem_singleton.1 h1]; exact hn hm
 have hund : ∀ bid, ∀ y ∈ (undropAt d es x bid).2, Q y := fun bid => by
  unfold undropAt
  split
  ·exact h
  ·split
   ·exact h
   ·dsimp only
    split
    ·exact h
    ·exact all_map (all_set h (fun y hy => hq y _ hy rfl rfl)) (fun y hy => by unfold backT; split; exact hq y _ hy rfl rfl; exact hy)
 unfold deedBy
 split
 ·unfold create
  split
  ·split
   ·exact h
   ·exact hnew _
  ·split
   ·exact h
   ·split
    ·exact h
    ·exact hnew _
 split
 ·unfold drop
  split
  ·exact h
  ·exact all_if (all_map (all_set h (fun y hy => hq y _ hy rfl rfl)) (fun y hy => by unfold goneT; split; exact hq y _ hy rfl rfl; exact hy)) (all_set h (fun y hy => hq y _ hy rfl rfl))
 split
 ·unfold undrop
  split
  ·exact hund 0
  ·split
   ·exact h
   ·exact hund _
 split
 ·unfold rename
  split
  ·exact h
  ·split
   ·split
    ·exact h
    ·exact all_map (all_set h (fun y hy => hq y _ hy rfl rfl)) (fun y hy => by unfold baseT; split; exact hq y _ hy rfl rfl; exact hy)
   ·split
    ·exact h
    ·exact all_set h (fun y hy => hq y _ hy rfl rfl)
 split
 ·unfold swap
  split
  ·exact all_set (all_set h (fun y hy => hq y _ hy rfl rfl)) (fun y hy => hq y _ hy rfl rfl)
  ·exact h
 split
 ·unfold lay
  split
  ·exact h
  ·exact all_set h hl
 ·unfold keepIt
  split
  ·exact h
  ·exact all_set h (fun y hy => hq y _ hy rfl rfl)
def Fine (y : EN) : Prop := y.f0.f3.length ≤ 1000000 ∧ y.f0.f4.length ≤ 1000000000
theorem done_fine (d : Dr) : ∀ (xs : List DE) (es : List EN), (∀ x ∈ xs, DeedOk x) → (∀ y ∈ es, Fine y) → ∀ y ∈ (doneBy d es xs).2, Fine y
 | [], es, _, h => by unfold doneBy; split <;> exact h
 | x :: r, es, hx, h => by
  have hok := hx x (by simp)
  have h1 : ∀ y ∈ (deedBy d es x).2, Fine y := deed_all h (fun y y' hy e3 e4 => by unfold Fine; rw [e3, e4]; exact hy) (fun _ => ⟨hok.l4, Nat.zero_le _⟩) (fun _ _ => ⟨hok.l4, hok.l6⟩)
  unfold doneBy
  dsimp only
  split
  ·exact done_fine d r _ (fun y hy => hx y (by simp [hy])) h1
  ·exact h1
structure Went (ss : List ST) (xs : List DE) (time : Int) (es : List EN) : Prop where
 valid : ∀ y ∈ xs, validB y = true
 one : 1 ≤ xs.length
 most : xs.length ≤ 60
 late : checkTime ss time = 0
 size : ss.length ≤ 4000
 done : doneBy ⟨ss.length, time, ss.map (·.f0)⟩ (lastOf ss).f2 xs = (0, es)
theorem commit_cases (ss : List ST) (xs : List DE) (time : Int) : (∃ e, e ≠ 0 ∧ commitBy ss xs time = ((0, e), ss)) ∨ ∃ es, Went ss xs time es ∧ commitBy ss xs time = (((ss.length : Int), 0), ss ++ [(⟨time, xs, es⟩ : ST)]) := by
 unfold commitBy
 split
 ·exact .inl ⟨1, by decide, rfl⟩
 ·rename_i h1
  simp only [Bool.or_eq_true, decide_eq_true_eq, not_or] at h1
  unfold force
  split
  ·exact .inl ⟨9, by decide, rfl⟩
  ·rename_i h2
   split
   ·exact .inl ⟨2, by decide, rfl⟩
   ·rename_i h3
    dsimp only
    split
    ·rename_i h4
     exact .inl ⟨_, h4, rfl⟩
    ·rename_i h4
     refine .inr ⟨_, ⟨good_of_any (by simpa using h1.2.2), by omega, by omega, by simpa using h2, by omega, ?_⟩, rfl⟩
     refine Prod.ext ?_ rfl
     simpa using h4
theorem last_mem {ss : List ST} (h : 0 < ss.length) : lastOf ss ∈ ss := List.mem_iff_getElem?.2 ⟨_, last_at h⟩
theorem commit_ok {ss : List ST} {xs : List DE} {time : Int} (h : CatOk ss) (hp : 0 < ss.length) (hi : ∀ y ∈ xs, DeedIn y) : CatOk (commitBy ss xs time).2 := by
 rcases commit_cases ss xs time with ⟨e, -, he⟩ | ⟨es, hw, he⟩
 ·rw [he]; exact h
 ·rw [he]
  have hok : ∀ x ∈ xs, DeedOk x := fun x hx => valid_ok (hw.valid x hx) (hi x hx)
  have hes : ∀ y ∈ es, Fine y := by
   have := done_fine ⟨ss.length, time, ss.map (·.f0)⟩ xs (lastOf ss).f2 hok (h.ents _ (last_mem hp))
   rwa [hw.done] at this
  refine ⟨fun s hs => ?_, fun s hs => ?_⟩
  ·rcases List.mem_append.1 hs with h1 | h1
   ·exact h.ents s h1
   ·rw [List.mem_singleton.1 h1]; exact hes
  ·rcases List.mem_append.1 hs with h1 | h1
   ·exact h.deeds s h1
   ·rw [List.mem_singleton.1 h1]
    exact ⟨by have := hw.most; show xs.length ≤ 100000; omega, hok⟩
theorem commit_len (ss : List ST) (xs : List DE) (time : Int) : ss.length ≤ (commitBy ss xs time).2.length ∧ (commitBy ss xs time).2.length ≤ ss.length + 1 := by
 rcases commit_cases ss xs time with ⟨e, -, he⟩ | ⟨es, -, he⟩ <;> rw [he] <;> simp
theorem commit_pre (ss : List ST) (xs : List DE) (time : Int) : ∃ t, (commitBy ss xs time).2 = ss ++ t := by
 rcases commit_cases ss xs time with ⟨e, -, he⟩ | ⟨es, -, he⟩ <;> rw [he]
 ·exact ⟨[], by simp⟩
 ·exact ⟨_, rfl⟩
def runBy (ss : List ST) : List SP → List ST
 | [] => ss
 | x :: r => runBy (commitBy ss x.f0 x.f1).2 r
theorem run_pre : ∀ (l : List SP) (ss : List ST), ∃ t, runBy ss l = ss ++ t
 | [], ss => ⟨[], by simp [runBy]⟩
 | x :: r, ss => by
  obtain ⟨t, ht⟩ := commit_pre ss x.f0 x.f1
  obtain ⟨u, hu⟩ := run_pre r (commitBy ss x.f0 x.f1).2
  exact ⟨t ++ u, by rw [runBy, hu, ht, List.append_assoc]⟩
theorem run_len : ∀ (l : List SP) (ss : List ST), (runBy ss l).length ≤ ss.length + l.length
 | [], ss => by simp [runBy]
 | x :: r, ss => by
  have := run_len r (commitBy ss x.f0 x.f1).2
  have := commit_len ss x.f0 x.f1
  rw [runBy]; simp; omega
theorem run_pos {l : List SP} {ss : List ST} (h : 0 < ss.length) : 0 < (runBy ss l).length := by
 obtain ⟨t, ht⟩ := run_pre l ss
 rw [ht]; simp; omega
theorem run_ok : ∀ (l : List SP) (ss : List ST), CatOk ss → 0 < ss.length → (∀ x ∈ l, ∀ y ∈ x.f0, DeedIn y) → CatOk (runBy ss l)
 | [], ss, h, _, _ => h
 | x :: r, ss, h, hp, hi => run_ok r _ (commit_ok h hp (hi x (by simp))) (by have := commit_len ss x.f0 x.f1; omega) (fun z hz => hi z (by simp [hz]))
theorem run_take {l : List SP} {ss : List ST} {k : Nat} {x : SP} (h : l[k]? = some x) : runBy ss (l.take (k + 1)) = (commitBy (runBy ss (l.take k)) x.f0 x.f1).2 := by
 obtain ⟨hk, he⟩ := List.getElem?_eq_some_iff.1 h
 rw [List.take_succ_eq_append_getElem hk, he]
 clear h hk he
 generalize l.take k = l'
 induction l' generalizing ss with
 | nil => rfl
 | cons y r ih => simp only [List.cons_append, runBy]; exact ih
theorem new_ok : CatOk Cat.new := ⟨by simp [Cat.new], by simp [Cat.new]⟩
theorem ba_ext {a b : ByteArray} (h : a.toList = b.toList) : a = b := by
 rw [ByteArray.toList_eq, ByteArray.toList_eq] at h
 exact ByteArray.ext (Array.toList_inj.1 h)
def isDb (y : EN) : Prop := y.f0.f2.toList = []
def inPl (y : EN) : Prop := y.f0.f8 = 0 ∨ y.f2 ≠ 0
structure Home (y b : EN) : Prop where
 id : b.f0.f0 = y.f1
 db : isDb b
 live : y.f0.f8 = 0 → y.f2 = 0 ∧ b.f0.f8 = 0 ∧ y.f0.f1 = b.f0.f1
 with_ : y.f2 ≠ 0 → y.f0.f8 = y.f2 ∧ b.f0.f8 = y.f2
structure EInv (n : Int) (es : List EN) : Prop where
 id : ∀ (i : Nat) (y : EN), es[i]? = some y → y.f0.f0 = (i : Int) + 1
 born : ∀ y ∈ es, 1 ≤ y.f0.f6 ∧ y.f0.f6 ≤ n
 gone : ∀ y ∈ es, 0 ≤ y.f0.f8 ∧ y.f0.f8 ≤ n
 keep : ∀ y ∈ es, 0 ≤ y.f0.f5 ∧ y.f0.f5 ≤ 1000000000
 db : ∀ y ∈ es, isDb y → y.f1 = 0 ∧ y.f2 = 0
 home : ∀ y ∈ es, ¬ isDb y → ∃ b ∈ es, Home y b
 uniqB : ∀ y ∈ es, ∀ z ∈ es, isDb y → isDb z → y.f0.f8 = 0 → z.f0.f8 = 0 → y.f0.f1 = z.f0.f1 → y.f0.f0 = z.f0.f0
 uniqT : ∀ y ∈ es, ∀ z ∈ es, ¬ isDb y → ¬ isDb z → y.f1 = z.f1 → inPl y → inPl z → y.f0.f2 = z.f0.f2 → y.f0.f0 = z.f0.f0
theorem EInv.nil (n : Int) : EInv n [] := ⟨by simp, by simp, by simp, by simp, by simp, by simp, by simp, by simp⟩
theorem EInv.mono {n n' : Int} {es : List EN} (h : EInv n es) (hn : n ≤ n') : EInv n' es :=
 ⟨h.id, fun y hy => ⟨(h.born y hy).1, by have := (h.born y hy).2; omega⟩, fun y hy => ⟨(h.gone y hy).1, by have := (h.gone y hy).2; omega⟩, h.keep, h.db, h.home, h.uniqB, h.uniqT⟩
section
variable {n : Int} {es : List EN}
theorem EInv.pos (h : EInv n es) {y : EN} (hy : y ∈ es) : 1 ≤ y.f0.f0 := by
 obtain ⟨i, hi⟩ := List.mem_iff_getElem?.1 hy
 rw [h.id i y hi]; omega
theorem EInv.inj (h : EInv n es) {y z : EN} (hy : y ∈ es) (hz : z ∈ es) (e : y.f0.f0 = z.f0.f0) : y = z := by
 obtain ⟨i, hi⟩ := List.mem_iff_getElem?.1 hy
 obtain ⟨j, hj⟩ := List.mem_iff_getElem?.1 hz
 rw [h.id i y hi, h.id j z hj] at e
 have : i = j := by omega
 subst this
 rw [hi] at hj; cases hj; rfl
theorem EInv.at_ (h : EInv n es) {y : EN} (hy : y ∈ es) : es[(y.f0.f0 - 1).toNat]? = some y := by
 obtain ⟨i, hi⟩ := List.mem_iff_getElem?.1 hy
 rw [h.id i y hi]
 have : ((i : Int) + 1 - 1).toNat = i := by omega
 rw [this]; exact hi
theorem EInv.set_map (h : EInv n es) {i : Nat} {y : EN} (hy : es[i]? = some y) (f : EN → EN) : setE es i f = es.map (fun z => if z.f0.f0 = y.f0.f0 then f z else z) := by
 have hi := (List.getElem?_eq_some_iff.1 hy).1
 rw [set_E hy]
 apply List.ext_getElem?
 intro j
 rw [List.getElem?_map]
 by_cases hj : j = i
 ·subst hj
  rw [List.getElem?_set_self hi, hy]
  simp
 ·rw [List.getElem?_set_ne (by omega)]
  cases hz : es[j]? with
  | none => rfl
  | some z =>
   have e1 := h.id j z hz
   have e2 := h.id i y hy
   simp only [Option.map_some]
   rw [if_neg (by omega)]
theorem EInv.map (h : EInv n es) {n' : Int} (G : EN → EN) (hn : n ≤ n') (hid : ∀ y ∈ es, (G y).f0.f0 = y.f0.f0) (hborn : ∀ y ∈ es, (G y).f0.f6 = y.f0.f6) (hhome : ∀ y ∈ es, (G y).f1 = y.f1) (hdb : ∀ y ∈ es, isDb (G y) ↔ isDb y)
  (hgone : ∀ y ∈ es, 0 ≤ (G y).f0.f8 ∧ (G y).f0.f8 ≤ n') (hkeep : ∀ y ∈ es, 0 ≤ (G y).f0.f5 ∧ (G y).f0.f5 ≤ 1000000000) (hwith : ∀ y ∈ es, isDb y → (G y).f2 = 0)
  (hlive : ∀ y ∈ es, ∀ b ∈ es, ¬ isDb y → Home y b → (G y).f0.f8 = 0 → (G y).f2 = 0 ∧ (G b).f0.f8 = 0 ∧ (G y).f0.f1 = (G b).f0.f1)
  (hwi : ∀ y ∈ es, ∀ b ∈ es, ¬ isDb y → Home y b → (G y).f2 ≠ 0 → (G y).f0.f8 = (G y).f2 ∧ (G b).f0.f8 = (G y).f2)
  (hub : ∀ y ∈ es, ∀ z ∈ es, isDb y → isDb z → (G y).f0.f8 = 0 → (G z).f0.f8 = 0 → (G y).f0.f1 = (G z).f0.f1 → y.f0.f0 = z.f0.f0)
  (hut : ∀ y ∈ es, ∀ z ∈ es, ¬ isDb y → ¬ isDb z → y.f1 = z.f1 → inPl (G y) → inPl (G z) → (G y).f0.f2 = (G z).f0.f2 → y.f0.f0 = z.f0.f0) : EInv n' (es.map G) := by
 refine ⟨fun i y hy => ?_, ?_, ?_, ?_, ?_, ?_, ?_, ?_⟩
 ·rw [List.getElem?_map] at hy
  cases hz : es[i]? with
  | none => rw [hz] at hy; cases hy
  | some z =>
   rw [hz] at hy; cases hy
   rw [hid z (List.mem_iff_getElem?.2 ⟨i, hz⟩)]
   exact h.id i z hz
 ·intro y hy
  obtain ⟨z, hz, rfl⟩ := List.mem_map.1 hy
  rw [hborn z hz]
  exact ⟨(h.born z hz).1, by have := (h.born z hz).2; omega⟩
 ·intro y hy
  obtain ⟨z, hz, rfl⟩ := List.mem_map.1 hy
  exact hgone z hz
 ·intro y hy
  obtain ⟨z, hz, rfl⟩ := List.mem_map.1 hy
  exact hkeep z hz
 ·intro y hy hd
  obtain ⟨z, hz, rfl⟩ := List.mem_map.1 hy
  have hd' := (hdb z hz).1 hd
  exact ⟨by rw [hhome z hz]; exact (h.db z hz hd').1, hwith z hz hd'⟩
 ·intro y hy hd
  obtain ⟨z, hz, rfl⟩ := List.mem_map.1 hy
  have hd' : ¬ isDb z := fun e => hd ((hdb z hz).2 e)
  obtain ⟨b, hb, hH⟩ := h.home z hz hd'
  exact ⟨G b, List.mem_map.2 ⟨b, hb, rfl⟩, by rw [hid b hb, hhome z hz]; exact hH.id, (hdb b hb).2 hH.db, hlive z hz b hb hd' hH, hwi z hz b hb hd' hH⟩
 ·intro y hy z hz
  obtain ⟨y', hy', rfl⟩ := List.mem_map.1 hy
  obtain ⟨z', hz', rfl⟩ := List.mem_map.1 hz
  intro d1 d2 g1 g2 e
  rw [hid y' hy', hid z' hz']
  exact hub y' hy' z' hz' ((hdb y' hy').1 d1) ((hdb z' hz').1 d2) g1 g2 e
 ·intro y hy z hz
  obtain ⟨y', hy', rfl⟩ := List.mem_map.1 hy
  obtain ⟨z', hz', rfl⟩ := List.mem_map.1 hz
  intro d1 d2 e1 g1 g2 e
  rw [hid y' hy', hid z' hz']
  rw [hhome y' hy', hhome z' hz'] at e1
  exact hut y' hy' z' hz' (fun e => d1 ((hdb y' hy').2 e)) (fun e => d2 ((hdb z' hz').2 e)) e1 g1 g2 e
theorem base_is {s : ByteArray} {i : Nat} (hi : baseIx es s = some i) : ∃ b, es[i]? = some b ∧ isDb b ∧ b.f0.f1 = s ∧ b.f0.f8 = 0 := by
 obtain ⟨hl, hp, -⟩ := List.findIdx?_eq_some_iff_getElem.1 hi
 unfold isBase at hp
 simp only [Bool.and_eq_true, decide_eq_true_eq, beq_iff_eq] at hp
 exact ⟨es[i], List.getElem?_eq_getElem hl, hp.1, ba_ext hp.2.1, hp.2.2⟩
theorem base_none {s : ByteArray} (hi : baseIx es s = none) : ∀ y ∈ es, isDb y → y.f0.f8 = 0 → y.f0.f1 ≠ s := by
 intro y hy hd hg e
 have := List.findIdx?_eq_none_iff.1 hi y hy
 unfold isBase at this
 have hd' : y.f0.f2.toList = [] := hd
 simp [hd', e, hg] at this
theorem table_is {hm : Int} {s : ByteArray} {i : Nat} (hi : tableIx es hm s = some i) : ∃ b, es[i]? = some b ∧ b.f1 = hm ∧ b.f0.f2 = s ∧ b.f0.f8 = 0 := by
 obtain ⟨hl, hp, -⟩ := List.findIdx?_eq_some_iff_getElem.1 hi
 unfold isTable at hp
 simp only [Bool.and_eq_true, decide_eq_true_eq, beq_iff_eq] at hp
 exact ⟨es[i], List.getElem?_eq_getElem hl, hp.1, ba_ext hp.2.1, hp.2.2⟩
theorem table_none {hm : Int} {s : ByteArray} (hi : tableIx es hm s = none) : ∀ y ∈ es, y.f1 = hm → y.f0.f8 = 0 → y.f0.f2 ≠ s := by
 intro y hy hd hg e
 have := List.findIdx?_eq_none_iff.1 hi y hy
 unfold isTable at this
 simp [hd, e, hg] at this
theorem id_of {i : Nat} {b : EN} (hb : es[i]? = some b) : idOf es i = b.f0.f0 := by simp [idOf, List.getD_eq_getElem?_getD, hb]
theorem find_is {base table : ByteArray} {i : Nat} (hi : findIx es base table = some i) : (table.toList = [] ∧ ∃ y, es[i]? = some y ∧ isDb y ∧ y.f0.f1 = base ∧ y.f0.f8 = 0) ∨
  (table.toList ≠ [] ∧ ∃ y b, es[i]? = some y ∧ b ∈ es ∧ isDb b ∧ b.f0.f1 = base ∧ b.f0.f8 = 0 ∧ y.f1 = b.f0.f0 ∧ y.f0.f2 = table ∧ y.f0.f8 = 0) := by
 unfold findIx at hi
 split at hi
 ·rename_i ht
  obtain ⟨b, h1, h2, h3, h4⟩ := base_is hi
  exact .inl ⟨ht, b, h1, h2, h3, h4⟩
 ·rename_i ht
  refine .inr ⟨ht, ?_⟩
  cases hb : baseIx es base with
  | none => rw [hb] at hi; cases hi
  | some k =>
   rw [hb] at hi
   obtain ⟨b, h1, h2, h3, h4⟩ := base_is hb
   have hi' : tableIx es (idOf es k) table = some i := hi
   rw [id_of h1] at hi'
   obtain ⟨y, g1, g2, g3, g4⟩ := table_is hi'
   exact ⟨y, b, g1, List.mem_iff_getElem?.2 ⟨k, h1⟩, h2, h3, h4, g2, g3, g4⟩
theorem find_none {base table : ByteArray} (hi : findIx es base table = none) : (table.toList = [] → ∀ y ∈ es, isDb y → y.f0.f8 = 0 → y.f0.f1 ≠ base) ∧ (table.toList ≠ [] → EInv n es → ∀ b ∈ es, isDb b → b.f0.f1 = base → b.f0.f8 = 0 → ∀ y ∈ es, y.f1 = b.f0.f0 → y.f0.f8 = 0 → y.f0.f2 ≠ table) := by
 unfold findIx at hi
 split at hi
 ·rename_i ht
  exact ⟨fun _ => base_none hi, fun h => absurd ht h⟩
 ·rename_i ht
  refine ⟨fun h => absurd h ht, fun _ h b hb hd hbn hg => ?_⟩
  cases hk : baseIx es base with
  | none => exact absurd hbn (base_none hk b hb hd hg)
  | some k =>
   rw [hk] at hi
   obtain ⟨b2, h1, h2, h3, h4⟩ := base_is hk
   have hi' : tableIx es (idOf es k) table = none := hi
   rw [id_of h1] at hi'
   have : b2.f0.f0 = b.f0.f0 := h.uniqB b2 (List.mem_iff_getElem?.2 ⟨k, h1⟩) b hb h2 hd h4 hg (h3.trans hbn.symm)
   rw [this] at hi'
   exact table_none hi'
end
theorem mem_of {es : List EN} {i : Nat} {y : EN} (h : es[i]? = some y) : y ∈ es := List.mem_iff_getElem?.2 ⟨i, h⟩
section
variable {n c : Int} {es : List EN}
theorem EInv.home_is (h : EInv n es) {y b b' : EN} (hb : b ∈ es) (hb' : b' ∈ es) (hH : Home y b') (e : y.f1 = b.f0.f0) : b' = b := h.inj hb' hb (hH.id.trans e)
theorem EInv.pl (h : EInv n es) {y b : EN} (hy : y ∈ es) (hd : ¬ isDb y) (hb : b ∈ es) (e : y.f1 = b.f0.f0) (hg : b.f0.f8 = 0) (hp : inPl y) : y.f0.f8 = 0 := by
 rcases hp with hp | hp
 ·exact hp
 ·obtain ⟨b', hb', hH⟩ := h.home y hy hd
  have := h.home_is hb hb' hH e
  subst this
  have := (hH.with_ hp).2
  exact absurd (this.symm.trans hg) hp
theorem EInv.push (h : EInv n es) (hn : n ≤ c) (hc : 1 ≤ c) (e : EN) (hid : e.f0.f0 = es.length + 1) (hborn : e.f0.f6 = c) (hgone : e.f0.f8 = 0) (hwith : e.f2 = 0) (hkeep : 0 ≤ e.f0.f5 ∧ e.f0.f5 ≤ 1000000000)
  (hdb : isDb e → e.f1 = 0 ∧ ∀ y ∈ es, isDb y → y.f0.f8 = 0 → y.f0.f1 ≠ e.f0.f1)
  (htab : ¬ isDb e → ∃ b ∈ es, isDb b ∧ b.f0.f0 = e.f1 ∧ b.f0.f8 = 0 ∧ e.f0.f1 = b.f0.f1 ∧ ∀ y ∈ es, y.f1 = e.f1 → y.f0.f8 = 0 → y.f0.f2 ≠ e.f0.f2) : EInv c (es ++ [e]) := by
 have h' := h.mono hn
 have hmem : ∀ y, y ∈ es ++ [e] → y ∈ es ∨ y = e := fun y hy => by simpa using hy
 refine ⟨?_, ?_, ?_, ?_, ?_, ?_, ?_, ?_⟩
 ·intro i y hy
  by_cases hi : i < es.length
  ·rw [List.getElem?_append_left hi] at hy
   exact h.id i y hy
  ·have hl := (List.getElem?_eq_some_iff.1 hy).1
   simp at hl
   have : i = es.length := by omega
   subst this
   simp at hy
   rw [← hy, hid]
 ·intro y hy
  rcases hmem y hy with hy | rfl
  ·exact h'.born y hy
  ·rw [hborn]; exact ⟨hc, Int.le_refl _⟩
 ·intro y hy
  rcases hmem y hy with hy | rfl
  ·exact h'.gone y hy
  ·rw [hgone]; exact ⟨Int.le_refl _, by omega⟩
 ·intro y hy
  rcases hmem y hy with hy | rfl
  ·exact h.keep y hy
  ·exact hkeep
 ·intro y hy hd
  rcases hmem y hy with hy | rfl
  ·exact h.db y hy hd
  ·exact ⟨(hdb hd).1, hwith⟩
 ·intro y hy hd
  rcases hmem y hy with hy | rfl
  ·obtain ⟨b, hb, hH⟩ := h.home y hy hd
   exact ⟨b, by simp [hb], hH⟩
  ·obtain ⟨b, hb, h1, h2, h3, h4, -⟩ := htab hd
   exact ⟨b, by simp [hb], h2, h1, fun _ => ⟨hwith, h3, h4⟩, fun hw => absurd hwith hw⟩
 ·intro y hy z hz dy dz gy gz e1
  rcases hmem y hy with hy1 | rfl <;> rcases hmem z hz with hz1 | rfl
  ·exact h.uniqB y hy1 z hz1 dy dz gy gz e1
  ·exact absurd e1 ((hdb dz).2 y hy1 dy gy)
  ·exact absurd e1.symm ((hdb dy).2 z hz1 dz gz)
  ·rfl
 ·intro y hy z hz dy dz e0 gy gz e1
  rcases hmem y hy with hy1 | rfl <;> rcases hmem z hz with hz1 | rfl
  ·exact h.uniqT y hy1 z hz1 dy dz e0 gy gz e1
  ·obtain ⟨b, hb, h1, h2, h3, h4, h5⟩ := htab dz
   exact absurd e1 (h5 y hy1 e0 (h.pl hy1 dy hb (e0.trans h2.symm) h3 gy))
  ·obtain ⟨b, hb, h1, h2, h3, h4, h5⟩ := htab dy
   exact absurd e1.symm (h5 z hz1 e0.symm (h.pl hz1 dz hb (e0.symm.trans h2.symm) h3 gz))
  ·rfl
theorem create_inv (h : EInv n es) (d : Dr) (x : DE) (hn : n ≤ d.commit) (hc : 1 ≤ d.commit) (hk : 0 ≤ x.f5 ∧ x.f5 ≤ 1000000000) : EInv d.commit (create d es x).2 := by
 unfold create
 split
 ·rename_i ht
  split
  ·exact h.mono hn
  ·rename_i hb
   have hb' : baseIx es x.f1 = none := by simpa using hb
   exact h.push hn hc _ rfl rfl rfl rfl hk (fun _ => ⟨rfl, base_none hb'⟩) (fun hd => absurd ht hd)
 ·rename_i ht
  split
  ·exact h.mono hn
  ·rename_i b hb
   obtain ⟨y, h1, h2, h3, h4⟩ := base_is hb
   split
   ·exact h.mono hn
   ·rename_i hi
    have hi' : tableIx es (idOf es b) x.f2 = none := by simpa using hi
    rw [id_of h1] at hi' ⊢
    exact h.push hn hc _ rfl rfl rfl rfl hk (fun hd => absurd hd ht) (fun _ => ⟨y, mem_of h1, h2, rfl, h4, h3.symm, table_none hi'⟩)
theorem EInv.calm (h : EInv n es) (hn : n ≤ c) (G : EN → EN) (h0 : ∀ y, (G y).f0.f0 = y.f0.f0) (h1 : ∀ y, (G y).f0.f1 = y.f0.f1) (h2 : ∀ y, (G y).f0.f2 = y.f0.f2) (h5 : ∀ y ∈ es, 0 ≤ (G y).f0.f5 ∧ (G y).f0.f5 ≤ 1000000000) (h6 : ∀ y, (G y).f0.f6 = y.f0.f6) (h8 : ∀ y, (G y).f0.f8 = y.f0.f8) (g1 : ∀ y, (G y).f1 = y.f1) (g2 : ∀ y, (G y).f2 = y.f2) : EInv c (es.map G) := by
 have hd : ∀ y, isDb (G y) ↔ isDb y := fun y => by unfold isDb; rw [h2]
 refine h.map G hn (fun y _ => h0 y) (fun y _ => h6 y) (fun y _ => g1 y) (fun y _ => hd y) (fun y hy => ?_) h5 (fun y hy d => ?_) (fun y hy b hb d hH e => ?_) (fun y hy b hb d hH e => ?_) (fun y hy z hz dy dz gy gz e => ?_) (fun y hy z hz dy dz e0 gy gz e => ?_)
 ·rw [h8]; exact (h.mono hn).gone y hy
 ·rw [g2]; exact (h.db y hy d).2
 ·rw [h8] at e; rw [g2, h8, h1, h1]; exact hH.live e
 ·rw [g2] at e; rw [g2, h8, h8]; exact hH.with_ e
 ·rw [h8] at gy gz; rw [h1, h1] at e; exact h.uniqB y hy z hz dy dz gy gz e
 ·rw [h2, h2] at e
  exact h.uniqT y hy z hz dy dz e0 (by unfold inPl at gy ⊢; rwa [h8, g2] at gy) (by unfold inPl at gz ⊢; rwa [h8, g2] at gz) e
theorem lay_inv (h : EInv n es) (d : Dr) (x : DE) (hn : n ≤ d.commit) : EInv d.commit (lay d es x).2 := by
 unfold lay
 split
 ·exact h.mono hn
 ·rename_i i hi
  obtain ⟨y, hy⟩ := find_get hi
  show EInv d.commit (setE es i (lay1 d x))
  rw [h.set_map hy]
  exact h.calm hn _ (fun z => by split <;> rfl) (fun z => by split <;> rfl) (fun z => by split <;> rfl) (fun z hz => by split <;> exact h.keep z hz) (fun z => by split <;> rfl) (fun z => by split <;> rfl) (fun z => by split <;> rfl) (fun z => by split <;> rfl)
theorem keep_inv (h : EInv n es) (d : Dr) (x : DE) (hn : n ≤ d.commit) (hk : 0 ≤ x.f5 ∧ x.f5 ≤ 1000000000) : EInv d.commit (keepIt es x).2 := by
 unfold keepIt
 split
 ·exact h.mono hn
 ·rename_i i hi
  obtain ⟨y, hy⟩ := find_get hi
  show EInv d.commit (setE es i (keep1 x.f5))
  rw [h.set_map hy]
  exact h.calm hn _ (fun z => by split <;> rfl) (fun z => by split <;> rfl) (fun z => by split <;> rfl) (fun z hz => by split; exact hk; exact h.keep z hz) (fun z => by split <;> rfl) (fun z => by split <;> rfl) (fun z => by split <;> rfl) (fun z => by split <;> rfl)
end
section
variable {n c : Int} {es : List EN}
theorem EInv.set_tabs (h : EInv n es) {i : Nat} {y : EN} (hy : es[i]? = some y) (hd : isDb y) (f g : EN → EN) (hf : (f y).f1 = y.f1) :
  (setE es i f).map (tabs y.f0.f0 g) = es.map (fun z => if z.f0.f0 = y.f0.f0 then f z else if z.f1 = y.f0.f0 then g z else z) := by
 rw [h.set_map hy, List.map_map]
 apply List.map_congr_left
 intro z hz
 have hp := h.pos (mem_of hy)
 have h0 := (h.db y (mem_of hy) hd).1
 by_cases e : z.f0.f0 = y.f0.f0
 ·obtain rfl := h.inj hz (mem_of hy) e
  simp only [Function.comp_apply, if_true]
  unfold tabs
  rw [if_neg (by rw [hf, h0]; omega)]
 ·simp only [Function.comp_apply, if_neg e]
  rfl
theorem drop_inv (h : EInv n es) (d : Dr) (x : DE) (hn : n ≤ d.commit) (hc : 1 ≤ d.commit) : EInv d.commit (drop d es x).2 := by
 unfold drop
 split
 ·exact h.mono hn
 ·rename_i i hi
  rcases find_is hi with ⟨ht, y, hy, hd, hb, hg⟩ | ⟨ht, y, b, hy, hbm, hbd, hbn, hbg, e1, e2, hg⟩
  ·dsimp only
   rw [if_pos ht, id_of hy, h.set_tabs hy hd _ _ rfl]
   have hym := mem_of hy
   have hp := h.pos hym
   have h0 := (h.db y hym hd).1
   have key : ∀ z ∈ es, ¬ isDb z → ∀ b ∈ es, Home z b → (z.f1 = y.f0.f0 ↔ b = y) := fun z hz dz b hb hH => ⟨fun e => h.home_is hym hb hH e, fun e => by rw [← hH.id, e]⟩
   refine h.map _ hn (fun z hz => ?_) (fun z hz => ?_) (fun z hz => ?_) (fun z hz => ?_) (fun z hz => ?_) (fun z hz => ?_) (fun z hz dz => ?_) (fun z hz b hb dz hH e => ?_) (fun z hz b hb dz hH e => ?_) (fun z hz z' hz' dz dz' gz gz' e => ?_) (fun z hz z' hz' dz dz' e0 gz gz' e => ?_)
   ·unfold gone1 goneT; repeat' split
    all_goals rfl
   ·unfold gone1 goneT; repeat' split
    all_goals rfl
   ·unfold gone1 goneT; repeat' split
    all_goals rfl
   ·unfold gone1 goneT isDb; repeat' split
    all_goals rfl
   ·have := (h.mono hn).gone z hz
    unfold gone1 goneT; repeat' split
    all_goals first | exact this | exact ⟨by show 0 ≤ d.commit; omega, Int.le_refl _⟩
   ·have := h.keep z hz
    unfold gone1 goneT; repeat' split
    all_goals exact this
   ·have := (h.db z hz dz)
    unfold gone1 goneT; repeat' split
    all_goals first
     | exact this.2
     | (exfalso; have := this.1; omega)
   ·have hk := key z hz dz b hb hH
    have hzy : z.f0.f0 ≠ y.f0.f0 := fun e' => dz (by rw [h.inj hz hym e']; exact hd)
    simp only [if_neg hzy] at e ⊢
    by_cases hm : z.f1 = y.f0.f0
    ·rw [if_pos hm] at e
     unfold goneT at e
     split at e
     ·exact absurd e (by show d.commit ≠ 0; omega)
     ·rename_i hne; exact absurd e hne
    ·rw [if_neg hm] at e ⊢
     have hby : b.f0.f0 ≠ y.f0.f0 := fun e' => hm (hk.2 (h.inj hb hym e'))
     have hb0 := (h.db b hb hH.db).1
     rw [if_neg hby, if_neg (by omega)]
     exact hH.live e
   ·have hk := key z hz dz b hb hH
    have hzy : z.f0.f0 ≠ y.f0.f0 := fun e' => dz (by rw [h.inj hz hym e']; exact hd)
    simp only [if_neg hzy] at e ⊢
    by_cases hm : z.f1 = y.f0.f0
    ·rw [if_pos hm] at e ⊢
     have hby := hk.1 hm
     rw [if_pos (by rw [hby])]
     unfold goneT at e ⊢
     split
     ·exact ⟨rfl, rfl⟩
     ·rename_i hne
      rw [if_neg hne] at e
      have := (hH.with_ e).2
      rw [hby, hg] at this
      exact absurd this.symm e
    ·rw [if_neg hm] at e ⊢
     have hby : b.f0.f0 ≠ y.f0.f0 := fun e' => hm (hk.2 (h.inj hb hym e'))
     have hb0 := (h.db b hb hH.db).1
     rw [if_neg hby, if_neg (by omega)]
     exact hH.with_ e
   ·have q1 := (h.db z hz dz).1
    have q2 := (h.db z' hz' dz').1
    by_cases m1 : z.f0.f0 = y.f0.f0
    ·rw [if_pos m1] at gz; exact absurd gz (by show d.commit ≠ 0; omega)
    ·by_cases m2 : z'.f0.f0 = y.f0.f0
     ·rw [if_pos m2] at gz'; exact absurd gz' (by show d.commit ≠ 0; omega)
     ·rw [if_neg m1, if_neg (by omega)] at gz e
      rw [if_neg m2, if_neg (by omega)] at gz' e
      exact h.uniqB z hz z' hz' dz dz' gz gz' e
   ·have hpl : ∀ z ∈ es, ¬ isDb z → inPl (if z.f0.f0 = y.f0.f0 then gone1 d.commit z else if z.f1 = y.f0.f0 then goneT d.commit z else z) → inPl z := by
     intro z hz dz hp
     have hzy : z.f0.f0 ≠ y.f0.f0 := fun e' => dz (by rw [h.inj hz hym e']; exact hd)
     rw [if_neg hzy] at hp
     split at hp
     ·unfold goneT at hp
      split at hp
      ·rename_i hz0; exact .inl hz0
      ·exact hp
     ·exact hp
    have hnm : ∀ z : EN, (if z.f0.f0 = y.f0.f0 then gone1 d.commit z else if z.f1 = y.f0.f0 then goneT d.commit z else z).f0.f2 = z.f0.f2 := by
     intro z; unfold gone1 goneT; repeat' split
     all_goals rfl
    rw [hnm, hnm] at e
    exact h.uniqT z hz z' hz' dz dz' e0 (hpl z hz dz gz) (hpl z' hz' dz' gz') e
  ·dsimp only
   rw [if_neg ht, h.set_map hy]
   have hym := mem_of hy
   have hyd : ¬ isDb y := by unfold isDb; rw [e2]; exact ht
   obtain ⟨b', hb', hHy⟩ := h.home y hym hyd
   have hyw := (hHy.live hg).1
   refine h.map _ hn (fun z hz => by split <;> rfl) (fun z hz => by split <;> rfl) (fun z hz => by split <;> rfl) (fun z hz => by split <;> exact Iff.rfl) (fun z hz => ?_) (fun z hz => ?_) (fun z hz dz => ?_) (fun z hz b hb dz hH e => ?_) (fun z hz b hb dz hH e => ?_) (fun z hz z' hz' dz dz' gz gz' e => ?_) (fun z hz z' hz' dz dz' e0 gz gz' e => ?_)
   ·split
    ·exact ⟨by show 0 ≤ d.commit; omega, Int.le_refl _⟩
    ·exact (h.mono hn).gone z hz
   ·split <;> exact h.keep z hz
   ·split <;> exact (h.db z hz dz).2
   ·have hby : b.f0.f0 ≠ y.f0.f0 := fun e' => hyd (by rw [← h.inj hb hym e']; exact hH.db)
    rw [if_neg hby]
    by_cases m : z.f0.f0 = y.f0.f0
    ·rw [if_pos m] at e; exact absurd e (by show d.commit ≠ 0; omega)
    ·rw [if_neg m] at e ⊢; exact hH.live e
   ·have hby : b.f0.f0 ≠ y.f0.f0 := fun e' => hyd (by rw [← h.inj hb hym e']; exact hH.db)
    rw [if_neg hby]
    by_cases m : z.f0.f0 = y.f0.f0
    ·rw [if_pos m] at e
     rw [h.inj hz hym m] at e
     exact absurd hyw e
    ·rw [if_neg m] at e ⊢; exact hH.with_ e
   ·have m1 : z.f0.f0 ≠ y.f0.f0 := fun e' => hyd (by rw [← h.inj hz hym e']; exact dz)
    have m2 : z'.f0.f0 ≠ y.f0.f0 := fun e' => hyd (by rw [← h.inj hz' hym e']; exact dz')
    rw [if_neg m1] at gz e
    rw [if_neg m2] at gz' e
    exact h.uniqB z hz z' hz' dz dz' gz gz' e
   ·have hpl : ∀ z ∈ es, inPl (if z.f0.f0 = y.f0.f0 then gone1 d.commit z else z) → inPl z := by
     intro z hz hp
     split at hp
     ·rename_i m
      rw [h.inj hz hym m]; exact .inl hg
     ·exact hp
    have hnm : ∀ z : EN, (if z.f0.f0 = y.f0.f0 then gone1 d.commit z else z).f0.f2 = z.f0.f2 := by intro z; split <;> rfl
    rw [hnm, hnm] at e
    exact h.uniqT z hz z' hz' dz dz' e0 (hpl z hz gz) (hpl z' hz' gz') e
end
section
variable {n c : Int} {es : List EN}
theorem dropUpTo_p {p : EN → Bool} {es : List EN} : ∀ {k j : Nat} {g : Int}, dropUpTo p es k = some (j, g) → p (es.getD j z64) = true
 | 0, j, g, h => by simp [dropUpTo] at h
 | k + 1, j, g, h => by
  unfold dropUpTo at h
  rcases dropStep_or p (dropUpTo p es k) k (es.getD k z64) with e | e
  ·rw [e] at h
   injection h with h
   injection h with h1 h2
   subst h1
   cases hp : p (es.getD k z64) with
   | true => rfl
   | false =>
    rw [step_false2 hp] at e
    have := (dropUpTo_at e).1
    omega
  ·rw [e] at h; exact dropUpTo_p h
theorem dropped_is {p : EN → Bool} {i : Nat} (h : dropped es p = some i) : ∃ y, es[i]? = some y ∧ 0 < y.f0.f8 ∧ p y = true := by
 have hl := drop_lt h
 obtain ⟨y, hy⟩ : ∃ y, es[i]? = some y := ⟨_, List.getElem?_eq_getElem hl⟩
 refine ⟨y, hy, dropped_pos h hy, ?_⟩
 unfold dropped at h
 cases hd : dropUpTo p es es.length with
 | none => rw [hd] at h; cases h
 | some jg =>
  obtain ⟨j, g⟩ := jg
  rw [hd] at h
  injection h with h
  subst h
  have := dropUpTo_p hd
  simpa [List.getD_eq_getElem?_getD, hy] using this
theorem undropBase_inv (h : EInv n es) (d : Dr) (x : DE) (hn : n ≤ d.commit) (ht : x.f2.toList = []) (bid : Int) : EInv d.commit (undropAt d es x bid).2 := by
 unfold undropAt
 split
 ·exact h.mono hn
 ·rename_i i hi
  obtain ⟨y, hy, hpos, hof⟩ := dropped_is hi
  unfold ofDeed at hof
  simp only [if_pos ht, Bool.and_eq_true, decide_eq_true_eq] at hof
  have hym := mem_of hy
  have hd : isDb y := by unfold isDb; rw [hof.1]; exact ht
  have hyb : y.f0.f1 = x.f1 := ba_ext hof.2
  have hyd : es.getD i z64 = y := by simp [List.getD_eq_getElem?_getD, hy]
  split
  ·exact h.mono hn
  ·rename_i hf
   have hnone : findIx es x.f1 x.f2 = none := by simpa using hf
   have hfree := (find_none (n := n) hnone).1 ht
   dsimp only
   rw [hyd]
   split
   ·exact h.mono hn
   ·show EInv d.commit ((setE es i (back1 x)).map (tabs y.f0.f0 (backT x y.f0.f8)))
    rw [h.set_tabs hy hd _ _ rfl]
    have hp := h.pos hym
    have h0 := (h.db y hym hd).1
    have key : ∀ z ∈ es, ¬ isDb z → ∀ b ∈ es, Home z b → (z.f1 = y.f0.f0 ↔ b = y) := fun z hz dz b hb hH => ⟨fun e => h.home_is hym hb hH e, fun e => by rw [← hH.id, e]⟩
    have hw : ∀ z : EN, withIt x y.f0.f8 z = true ↔ z.f0.f8 = y.f0.f8 ∧ z.f2 = y.f0.f8 := fun z => by unfold withIt; simp [ht]
    refine h.map _ hn (fun z hz => ?_) (fun z hz => ?_) (fun z hz => ?_) (fun z hz => ?_) (fun z hz => ?_) (fun z hz => ?_) (fun z hz dz => ?_) (fun z hz b hb dz hH e => ?_) (fun z hz b hb dz hH e => ?_) (fun z hz z' hz' dz dz' gz gz' e => ?_) (fun z hz z' hz' dz dz' e0 gz gz' e => ?_)
    ·unfold back1 backT; repeat' split
     all_goals rfl
    ·unfold back1 backT; repeat' split
     all_goals rfl
    ·unfold back1 backT; repeat' split
     all_goals rfl
    ·unfold back1 backT isDb; repeat' split
     all_goals rfl
    ·have := (h.mono hn).gone z hz
     unfold back1 backT; repeat' split
     all_goals first | exact this | exact ⟨Int.le_refl _, by show (0 : Int) ≤ d.commit; omega⟩
    ·have := h.keep z hz
     unfold back1 backT; repeat' split
     all_goals exact this
    ·have := (h.db z hz dz)
     unfold back1 backT; repeat' split
     all_goals first
      | rfl
      | exact this.2
    ·have hk := key z hz dz b hb hH
     have hzy : z.f0.f0 ≠ y.f0.f0 := fun e' => dz (by rw [h.inj hz hym e']; exact hd)
     simp only [if_neg hzy] at e ⊢
     by_cases hm : z.f1 = y.f0.f0
     ·rw [if_pos hm] at e ⊢
      have hby := hk.1 hm
      rw [if_pos (by rw [hby])]
      unfold backT at e ⊢
      split
      ·exact ⟨rfl, rfl, rfl⟩
      ·rename_i hne
       rw [if_neg hne] at e
       have := (hH.live e).2.1
       rw [hby] at this
       omega
     ·rw [if_neg hm] at e ⊢
      have hby : b.f0.f0 ≠ y.f0.f0 := fun e' => hm (hk.2 (h.inj hb hym e'))
      have hb0 := (h.db b hb hH.db).1
      rw [if_neg hby, if_neg (by omega)]
      exact hH.live e
    ·have hk := key z hz dz b hb hH
     have hzy : z.f0.f0 ≠ y.f0.f0 := fun e' => dz (by rw [h.inj hz hym e']; exact hd)
     simp only [if_neg hzy] at e ⊢
     by_cases hm : z.f1 = y.f0.f0
     ·rw [if_pos hm] at e ⊢
      have hby := hk.1 hm
      unfold backT at e ⊢
      split
      ·rename_i hne
       rw [if_pos hne] at e
       exact absurd rfl e
      ·rename_i hne
       rw [if_neg hne] at e
       exfalso
       have := hH.with_ e
       rw [hby] at this
       exact hne ((hw z).2 ⟨by rw [this.1, this.2], this.2.symm⟩)
     ·rw [if_neg hm] at e ⊢
      have hby : b.f0.f0 ≠ y.f0.f0 := fun e' => hm (hk.2 (h.inj hb hym e'))
      have hb0 := (h.db b hb hH.db).1
      rw [if_neg hby, if_neg (by omega)]
      exact hH.with_ e
    ·have q1 := (h.db z hz dz).1
     have q2 := (h.db z' hz' dz').1
     by_cases m1 : z.f0.f0 = y.f0.f0
     ·by_cases m2 : z'.f0.f0 = y.f0.f0
      ·rw [m1, m2]
      ·rw [if_pos m1] at e
       rw [if_neg m2, if_neg (by omega)] at e gz'
       exact absurd e.symm (hfree z' hz' dz' gz')
     ·by_cases m2 : z'.f0.f0 = y.f0.f0
      ·rw [if_pos m2] at e
       rw [if_neg m1, if_neg (by omega)] at e gz
       exact absurd e (hfree z hz dz gz)
      ·rw [if_neg m1, if_neg (by omega)] at gz e
       rw [if_neg m2, if_neg (by omega)] at gz' e
       exact h.uniqB z hz z' hz' dz dz' gz gz' e
    ·have hpl : ∀ z ∈ es, ¬ isDb z → inPl (if z.f0.f0 = y.f0.f0 then back1 x z else if z.f1 = y.f0.f0 then backT x y.f0.f8 z else z) → inPl z := by
      intro z hz dz hp
      have hzy : z.f0.f0 ≠ y.f0.f0 := fun e' => dz (by rw [h.inj hz hym e']; exact hd)
      rw [if_neg hzy] at hp
      split at hp
      ·unfold backT at hp
       split at hp
       ·rename_i hz0
        have := ((hw z).1 hz0).2
        exact .inr (by omega)
       ·exact hp
      ·exact hp
     have hnm : ∀ z : EN, (if z.f0.f0 = y.f0.f0 then back1 x z else if z.f1 = y.f0.f0 then backT x y.f0.f8 z else z).f0.f2 = z.f0.f2 := by
      intro z; unfold back1 backT; repeat' split
      all_goals rfl
     rw [hnm, hnm] at e
     exact h.uniqT z hz z' hz' dz dz' e0 (hpl z hz dz gz) (hpl z' hz' dz' gz') e
theorem EInv.place (h : EInv n es) (hn : n ≤ c) {y b : EN} (hym : y ∈ es) (hyd : ¬ isDb y) (hb : b ∈ es) (hbd : isDb b) (hbg : b.f0.f8 = 0) (e1 : y.f1 = b.f0.f0) (f : EN → EN)
  (h0 : (f y).f0.f0 = y.f0.f0) (h1 : (f y).f0.f1 = b.f0.f1) (h2 : (f y).f0.f2.toList ≠ []) (h5 : (f y).f0.f5 = y.f0.f5) (h6 : (f y).f0.f6 = y.f0.f6) (h8 : (f y).f0.f8 = 0) (g1 : (f y).f1 = y.f1) (g2 : (f y).f2 = 0) (hc : 0 ≤ c)
  (hfree : ∀ z ∈ es, z.f1 = b.f0.f0 → z.f0.f8 = 0 → z.f0.f0 ≠ y.f0.f0 → z.f0.f2 ≠ (f y).f0.f2) : EInv c (es.map (fun z => if z.f0.f0 = y.f0.f0 then f z else z)) := by
 have at_ : ∀ z ∈ es, z.f0.f0 = y.f0.f0 → z = y := fun z hz e => h.inj hz hym e
 refine h.map _ hn (fun z hz => ?_) (fun z hz => ?_) (fun z hz => ?_) (fun z hz => ?_) (fun z hz => ?_) (fun z hz => ?_) (fun z hz dz => ?_) (fun z hz b' hb' dz hH e => ?_) (fun z hz b' hb' dz hH e => ?_) (fun z hz z' hz' dz dz' gz gz' e => ?_) (fun z hz z' hz' dz dz' e0 gz gz' e => ?_)
 ·split
  ·rename_i m; rw [at_ z hz m]; exact h0
  ·rfl
 ·split
  ·rename_i m; rw [at_ z hz m]; exact h6
  ·rfl
 ·split
  ·rename_i m; rw [at_ z hz m]; exact g1
  ·rfl
 ·split
  ·rename_i m; rw [at_ z hz m]; exact ⟨fun q => absurd q h2, fun q => absurd q hyd⟩
  ·exact Iff.rfl
 ·split
  ·rename_i m; rw [at_ z hz m, h8]; exact ⟨Int.le_refl _, hc⟩
  ·exact (h.mono hn).gone z hz
 ·split
  ·rename_i m; rw [at_ z hz m, h5]; exact h.keep y hym
  ·exact h.keep z hz
 ·rw [if_neg (fun m => hyd (by rw [← at_ z hz m]; exact dz))]
  exact (h.db z hz dz).2
 ·have hby : b'.f0.f0 ≠ y.f0.f0 := fun e' => hyd (by rw [← at_ b' hb' e']; exact hH.db)
  rw [if_neg hby]
  by_cases m : z.f0.f0 = y.f0.f0
  ·rw [if_pos m, at_ z hz m]
   rw [at_ z hz m] at hH
   have := h.home_is hb hb' hH e1
   subst this
   exact ⟨g2, hbg, h1⟩
  ·rw [if_neg m] at e ⊢; exact hH.live e
 ·have hby : b'.f0.f0 ≠ y.f0.f0 := fun e' => hyd (by rw [← at_ b' hb' e']; exact hH.db)
  rw [if_neg hby]
  by_cases m : z.f0.f0 = y.f0.f0
  ·rw [if_pos m, at_ z hz m] at e
   exact absurd g2 e
  ·rw [if_neg m] at e ⊢; exact hH.with_ e
 ·rw [if_neg (fun m => hyd (by rw [← at_ z hz m]; exact dz))] at gz e
  rw [if_neg (fun m => hyd (by rw [← at_ z' hz' m]; exact dz'))] at gz' e
  exact h.uniqB z hz z' hz' dz dz' gz gz' e
 ·by_cases m1 : z.f0.f0 = y.f0.f0
  ·by_cases m2 : z'.f0.f0 = y.f0.f0
   ·rw [m1, m2]
   ·exfalso
    rw [if_pos m1, if_neg m2, at_ z hz m1] at e
    rw [if_neg m2] at gz'
    have e3 : z'.f1 = b.f0.f0 := by rw [← e0, at_ z hz m1, e1]
    exact hfree z' hz' e3 (h.pl hz' dz' hb e3 hbg gz') m2 e.symm
  ·by_cases m2 : z'.f0.f0 = y.f0.f0
   ·exfalso
    rw [if_neg m1, if_pos m2, at_ z' hz' m2] at e
    rw [if_neg m1] at gz
    have e3 : z.f1 = b.f0.f0 := by rw [e0, at_ z' hz' m2, e1]
    exact hfree z hz e3 (h.pl hz dz hb e3 hbg gz) m1 e
   ·rw [if_neg m1, if_neg m2] at e
    rw [if_neg m1] at gz
    rw [if_neg m2] at gz'
    exact h.uniqT z hz z' hz' dz dz' e0 gz gz' e
theorem undropTable_inv (h : EInv n es) (d : Dr) (x : DE) (hn : n ≤ d.commit) (hc : 1 ≤ d.commit) (ht : x.f2.toList ≠ []) {b : EN} (hb : b ∈ es) (hbd : isDb b) (hbn : b.f0.f1 = x.f1) (hbg : b.f0.f8 = 0) : EInv d.commit (undropAt d es x b.f0.f0).2 := by
 unfold undropAt
 split
 ·exact h.mono hn
 ·rename_i i hi
  obtain ⟨y, hy, hpos, hof⟩ := dropped_is hi
  unfold ofDeed at hof
  simp only [if_neg ht, Bool.and_eq_true, decide_eq_true_eq, beq_iff_eq] at hof
  have hym := mem_of hy
  have hyt : y.f0.f2 = x.f2 := ba_ext hof.1
  have hyd : ¬ isDb y := by unfold isDb; rw [hyt]; exact ht
  have hye : es.getD i z64 = y := by simp [List.getD_eq_getElem?_getD, hy]
  split
  ·exact h.mono hn
  ·rename_i hf
   have hnone : findIx es x.f1 x.f2 = none := by simpa using hf
   have hfree := (find_none hnone).2 ht h b hb hbd hbn hbg
   dsimp only
   rw [hye]
   split
   ·exact h.mono hn
   ·show EInv d.commit ((setE es i (back1 x)).map (tabs y.f0.f0 (backT x y.f0.f8)))
    have hid : ∀ z : EN, tabs y.f0.f0 (backT x y.f0.f8) z = z := fun z => by
     unfold tabs backT withIt
     simp [ht]
    rw [show (setE es i (back1 x)).map (tabs y.f0.f0 (backT x y.f0.f8)) = setE es i (back1 x) from by
     conv => rhs; rw [← List.map_id (setE es i (back1 x))]
     exact List.map_congr_left (fun z _ => hid z), h.set_map hy]
    exact h.place hn hym hyd hb hbd hbg hof.2 _ rfl (by rw [hbn]; rfl) (by show y.f0.f2.toList ≠ []; rw [hyt]; exact ht) rfl rfl rfl rfl rfl (by omega) (fun z hz e1 e2 _ => by show z.f0.f2 ≠ y.f0.f2; rw [hyt]; exact hfree z hz e1 e2)
theorem undrop_inv (h : EInv n es) (d : Dr) (x : DE) (hn : n ≤ d.commit) (hc : 1 ≤ d.commit) : EInv d.commit (undrop d es x).2 := by
 unfold undrop
 split
 ·rename_i ht
  exact undropBase_inv h d x hn ht 0
 ·rename_i ht
  split
  ·exact h.mono hn
  ·rename_i b hb
   obtain ⟨y, h1, h2, h3, h4⟩ := base_is hb
   rw [id_of h1]
   exact undropTable_inv h d x hn hc ht (mem_of h1) h2 h3 h4
end
end Go.Proofs.Ytcfgcmjnailndaa
