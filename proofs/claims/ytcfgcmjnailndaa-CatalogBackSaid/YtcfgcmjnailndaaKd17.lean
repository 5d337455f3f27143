/-
  Plain: rename, swap keep what holds of all entries; so do commits.
  Plain: what holds of all states of a catalog.
  Catalogs side by side; made.
  The law functions states and begins.
  Deeds that the laws make; lists of them; the plain run of awake.
  The walk of awake: the chapter's examples.
  The walk of CatalogKept.
  The law function home.
-/
import Derived.StillTailTactics
import Derived.BigGuardPart
import Derived.BigCall
import Derived.Test.YtcfgcmjnailndaaKd16
namespace Go.Proofs.Ytcfgcmjnailndaa
open Go.RowKit Go.Proofs.Ytcfgcmjnailndaa.PCatalogKept Go.Proofs.YtcfgcmjnailndaaW.PrintWords Go.Proofs.YtcfgcmjnailndaaW.PrintLast Go.Proofs.YtcfgcmjnailndaaW.PrintMore
section
variable {n c : Int} {es : List EN}
theorem rename_inv (h : EInv n es) (d : Dr) (x : DE) (hn : n ≤ d.commit) (hc : 1 ≤ d.commit) (hto : x.f3.toList ≠ []) : EInv d.commit (rename es x).2 := by
 unfold rename
 split
 ·exact h.mono hn
 ·rename_i i hi
  rcases find_is hi with ⟨ht, y, hy, hd, hb, hg⟩ | ⟨ht, y, b, hy, hbm, hbd, hbn, hbg, e1, e2, hg⟩
  ·rw [if_pos ht]
   split
   ·exact h.mono hn
   ·rename_i hf
    have hnone : baseIx es x.f3 = none := by simpa using hf
    have hfree := base_none hnone
    show EInv d.commit ((setE es i (names1 x.f3 x.f2)).map (tabs (idOf es i) (baseT x.f3)))
    rw [id_of hy, h.set_tabs hy hd _ _ rfl]
    have hym := mem_of hy
    have hp := h.pos hym
    have h0 := (h.db y hym hd).1
    have key : ∀ z ∈ es, ¬ isDb z → ∀ b ∈ es, Home z b → (z.f1 = y.f0.f0 ↔ b = y) := fun z hz dz b hb hH => ⟨fun e => h.home_is hym hb hH e, fun e => by rw [← hH.id, e]⟩
    have h8 : ∀ z : EN, (if z.f0.f0 = y.f0.f0 then names1 x.f3 x.f2 z else if z.f1 = y.f0.f0 then baseT x.f3 z else z).f0.f8 = z.f0.f8 := by
     intro z; unfold names1 baseT base1; repeat' split
     all_goals rfl
    have g2 : ∀ z : EN, (if z.f0.f0 = y.f0.f0 then names1 x.f3 x.f2 z else if z.f1 = y.f0.f0 then baseT x.f3 z else z).f2 = z.f2 := by
     intro z; unfold names1 baseT base1; repeat' split
     all_goals rfl
    refine h.map _ hn (fun z hz => ?_) (fun z hz => ?_) (fun z hz => ?_) (fun z hz => ?_) (fun z hz => ?_) (fun z hz => ?_) (fun z hz dz => ?_) (fun z hz b hb dz hH e => ?_) (fun z hz b hb dz hH e => ?_) (fun z hz z' hz' dz dz' gz gz' e => ?_) (fun z hz z' hz' dz dz' e0 gz gz' e => ?_)
    ·unfold names1 baseT base1; repeat' split
     all_goals rfl
    ·unfold names1 baseT base1; repeat' split
     all_goals rfl
    ·unfold names1 baseT base1; repeat' split
     all_goals rfl
    ·by_cases m : z.f0.f0 = y.f0.f0
     ·rw [if_pos m, h.inj hz hym m]
      exact ⟨fun _ => hd, fun _ => ht⟩
     ·rw [if_neg m]
      unfold baseT base1 isDb; repeat' split
      all_goals rfl
    ·rw [h8]; exact (h.mono hn).gone z hz
    ·have := h.keep z hz
     unfold names1 baseT base1; repeat' split
     all_goals exact this
    ·rw [g2]; exact (h.db z hz dz).2
    ·rw [h8] at e
     rw [g2, h8]
     obtain ⟨k1, k2, k3⟩ := hH.live e
     refine ⟨k1, k2, ?_⟩
     have hk := key z hz dz b hb hH
     have hzy : z.f0.f0 ≠ y.f0.f0 := fun e' => dz (by rw [h.inj hz hym e']; exact hd)
     rw [if_neg hzy]
     by_cases hm : z.f1 = y.f0.f0
     ·have hby := hk.1 hm
      rw [if_pos hm, if_pos (by rw [hby])]
      unfold baseT
      rw [if_pos e]
      rfl
     ·have hby : b.f0.f0 ≠ y.f0.f0 := fun e' => hm (hk.2 (h.inj hb hym e'))
      have hb0 := (h.db b hb hH.db).1
      rw [if_neg hm, if_neg hby, if_neg (by omega)]
      exact k3
    ·rw [g2] at e
     rw [g2, h8, h8]
     exact hH.with_ e
    ·rw [h8] at gz gz'
     have q1 := (h.db z hz dz).1
     have q2 := (h.db z' hz' dz').1
     by_cases m1 : z.f0.f0 = y.f0.f0
     ·by_cases m2 : z'.f0.f0 = y.f0.f0
      ·rw [m1, m2]
      ·rw [if_pos m1] at e
       rw [if_neg m2, if_neg (by omega)] at e
       exact absurd e.symm (hfree z' hz' dz' gz')
     ·by_cases m2 : z'.f0.f0 = y.f0.f0
      ·rw [if_pos m2] at e
       rw [if_neg m1, if_neg (by omega)] at e
       exact absurd e (hfree z hz dz gz)
      ·rw [if_neg m1, if_neg (by omega)] at e
       rw [if_neg m2, if_neg (by omega)] at e
       exact h.uniqB z hz z' hz' dz dz' gz gz' e
    ·have hnm : ∀ z ∈ es, ¬ isDb z → (if z.f0.f0 = y.f0.f0 then names1 x.f3 x.f2 z else if z.f1 = y.f0.f0 then baseT x.f3 z else z).f0.f2 = z.f0.f2 := by
      intro z hz dz
      have hzy : z.f0.f0 ≠ y.f0.f0 := fun e' => dz (by rw [h.inj hz hym e']; exact hd)
      rw [if_neg hzy]
      unfold baseT base1; repeat' split
      all_goals rfl
     rw [hnm z hz dz, hnm z' hz' dz'] at e
     exact h.uniqT z hz z' hz' dz dz' e0 (by unfold inPl at gz ⊢; rwa [h8, g2] at gz) (by unfold inPl at gz' ⊢; rwa [h8, g2] at gz') e
  ·rw [if_neg ht]
   split
   ·exact h.mono hn
   ·rename_i hf
    have hnone : findIx es x.f1 x.f3 = none := by simpa using hf
    have hfree := (find_none hnone).2 hto h b hbm hbd hbn hbg
    show EInv d.commit (setE es i (names1 x.f1 x.f3))
    rw [h.set_map hy]
    have hym := mem_of hy
    have hyd : ¬ isDb y := by unfold isDb; rw [e2]; exact ht
    obtain ⟨b', hb', hHy⟩ := h.home y hym hyd
    exact h.place hn hym hyd hbm hbd hbg e1 _ rfl (by rw [hbn]; rfl) hto rfl rfl hg rfl (hHy.live hg).1 (by omega) (fun z hz q1 q2 _ => hfree z hz q1 q2)
theorem set2_map (h : EInv n es) {i k : Nat} {y z : EN} (hy : es[i]? = some y) (hz : es[k]? = some z) (a b : ByteArray) : setE (setE es i (table1 a)) k (table1 b) = es.map (fun u => if u.f0.f0 = z.f0.f0 then table1 b u else if u.f0.f0 = y.f0.f0 then table1 a u else u) := by
 have hi := (List.getElem?_eq_some_iff.1 hy).1
 have hk := (List.getElem?_eq_some_iff.1 hz).1
 have e1 := h.id i y hy
 have e2 := h.id k z hz
 apply List.ext_getElem?
 intro j
 rw [List.getElem?_map]
 unfold setE
 by_cases hj : j < es.length
 ·obtain ⟨u, hu⟩ : ∃ u, es[j]? = some u := ⟨_, List.getElem?_eq_getElem hj⟩
  have e3 := h.id j u hu
  rw [hu]
  by_cases hjk : k = j
  ·subst hjk
   rw [List.getElem?_set_self (by simpa using hj)]
   rw [hu] at hz; cases hz
   simp only [Option.map_some, if_true]
   by_cases hik : i = k
   ·subst hik
    rw [hu] at hy; cases hy
    have hE := (List.getElem?_eq_some_iff.1 hu).2
    simp [List.getD_eq_getElem?_getD, hj, hE, table1]
   ·simp [List.getD_eq_getElem?_getD, List.getElem?_set_ne hik, hu]
  ·rw [List.getElem?_set_ne hjk]
   simp only [Option.map_some]
   rw [if_neg (by omega)]
   by_cases hij : i = j
   ·subst hij
    rw [List.getElem?_set_self hi]
    rw [hu] at hy; cases hy
    simp [List.getD_eq_getElem?_getD, hu]
   ·rw [List.getElem?_set_ne hij, hu, if_neg (by omega)]
 ·rw [List.getElem?_eq_none (by simp; omega), List.getElem?_eq_none (by omega)]
  rfl
theorem in_is {s t : ByteArray} {i : Nat} (hi : inIx es (baseIx es s) t = some i) : ∃ y b, es[i]? = some y ∧ b ∈ es ∧ isDb b ∧ b.f0.f1 = s ∧ b.f0.f8 = 0 ∧ y.f1 = b.f0.f0 ∧ y.f0.f2 = t ∧ y.f0.f8 = 0 := by
 cases hb : baseIx es s with
 | none => rw [hb] at hi; cases hi
 | some k =>
  rw [hb] at hi
  obtain ⟨b, h1, h2, h3, h4⟩ := base_is hb
  have hi' : tableIx es (idOf es k) t = some i := hi
  rw [id_of h1] at hi'
  obtain ⟨y, g1, g2, g3, g4⟩ := table_is hi'
  exact ⟨y, b, g1, mem_of h1, h2, h3, h4, g2, g3, g4⟩
theorem swap_inv (h : EInv n es) (d : Dr) (x : DE) (hn : n ≤ d.commit) (ht : x.f2.toList ≠ []) (hto : x.f3.toList ≠ []) : EInv d.commit (swap es x).2 := by
 unfold swap
 split
 ·rename_i i k hi hk
  obtain ⟨y, b, hy, hb, hbd, hbn, hbg, e1, e2, hg⟩ := in_is hi
  obtain ⟨z, b', hz, hb', hbd', hbn', hbg', e1', e2', hg'⟩ := in_is hk
  have hyd0 : es.getD i z64 = y := by simp [List.getD_eq_getElem?_getD, hy]
  have hzd0 : es.getD k z64 = z := by simp [List.getD_eq_getElem?_getD, hz]
  show EInv d.commit (setE (setE es i (table1 (es.getD k z64).f0.f2)) k (table1 (es.getD i z64).f0.f2))
  rw [hyd0, hzd0, set2_map h hy hz]
  have hym := mem_of hy
  have hzm := mem_of hz
  have hyd : ¬ isDb y := by unfold isDb; rw [e2]; exact ht
  have hzd : ¬ isDb z := by unfold isDb; rw [e2']; exact hto
  have hbb : b'.f0.f0 = b.f0.f0 := h.uniqB b' hb' b hb hbd' hbd hbg' hbg (hbn'.trans hbn.symm)
  have hyz : y.f1 = z.f1 := by rw [e1, e1', hbb]
  have h8 : ∀ u : EN, (if u.f0.f0 = z.f0.f0 then table1 y.f0.f2 u else if u.f0.f0 = y.f0.f0 then table1 z.f0.f2 u else u).f0.f8 = u.f0.f8 := by
   intro u; unfold table1; repeat' split
   all_goals rfl
  have h1 : ∀ u : EN, (if u.f0.f0 = z.f0.f0 then table1 y.f0.f2 u else if u.f0.f0 = y.f0.f0 then table1 z.f0.f2 u else u).f0.f1 = u.f0.f1 := by
   intro u; unfold table1; repeat' split
   all_goals rfl
  have g2 : ∀ u : EN, (if u.f0.f0 = z.f0.f0 then table1 y.f0.f2 u else if u.f0.f0 = y.f0.f0 then table1 z.f0.f2 u else u).f2 = u.f2 := by
   intro u; unfold table1; repeat' split
   all_goals rfl
  refine h.map _ hn (fun u hu => ?_) (fun u hu => ?_) (fun u hu => ?_) (fun u hu => ?_) (fun u hu => ?_) (fun u hu => ?_) (fun u hu du => ?_) (fun u hu b hb du hH e => ?_) (fun u hu b hb du hH e => ?_) (fun u hu v hv du dv gu gv e => ?_) (fun u hu v hv du dv e0 gu gv e => ?_)
  ·unfold table1; repeat' split
   all_goals rfl
  ·unfold table1; repeat' split
   all_goals rfl
  ·unfold table1; repeat' split
   all_goals rfl
  ·by_cases m : u.f0.f0 = z.f0.f0
   ·rw [if_pos m, h.inj hu hzm m]
    exact ⟨fun q => absurd q hyd, fun q => absurd q hzd⟩
   ·rw [if_neg m]
    by_cases m2 : u.f0.f0 = y.f0.f0
    ·rw [if_pos m2, h.inj hu hym m2]
     exact ⟨fun q => absurd q hzd, fun q => absurd q hyd⟩
    ·rw [if_neg m2]
  ·rw [h8]; exact (h.mono hn).gone u hu
  ·have := h.keep u hu
   unfold table1; repeat' split
   all_goals exact this
  ·rw [g2]; exact (h.db u hu du).2
  ·rw [h8] at e; rw [g2, h8, h1, h1]; exact hH.live e
  ·rw [g2] at e; rw [g2, h8, h8]; exact hH.with_ e
  ·rw [h8] at gu gv; rw [h1, h1] at e; exact h.uniqB u hu v hv du dv gu gv e
  ·have gu' : inPl u := by unfold inPl at gu ⊢; rwa [h8, g2] at gu
   have gv' : inPl v := by unfold inPl at gv ⊢; rwa [h8, g2] at gv
   have U := fun (p q : EN) (hp : p ∈ es) (hq : q ∈ es) (dp : ¬ isDb p) (dq : ¬ isDb q) (ep : p.f1 = q.f1) (gp : inPl p) (gq : inPl q) (en : p.f0.f2 = q.f0.f2) => h.uniqT p hp q hq dp dq ep gp gq en
   have py : inPl y := .inl hg
   have pz : inPl z := .inl hg'
   by_cases mu : u.f0.f0 = z.f0.f0
   ·obtain rfl := h.inj hu hzm mu
    by_cases mv : v.f0.f0 = u.f0.f0
    ·exact mv.symm
    ·rw [if_pos rfl, if_neg mv] at e
     by_cases mv2 : v.f0.f0 = y.f0.f0
     ·rw [if_pos mv2] at e
      obtain rfl := h.inj hv hym mv2
      have e' : v.f0.f2 = u.f0.f2 := e
      exact U u v hu hv du dv e0 gu' gv' e'.symm
     ·rw [if_neg mv2] at e
      have e' : y.f0.f2 = v.f0.f2 := e
      exact absurd (U y v hym hv hyd dv (hyz.trans e0) py gv' e') (fun q => mv2 q.symm)
   ·rw [if_neg mu] at e
    by_cases mu2 : u.f0.f0 = y.f0.f0
    ·obtain rfl := h.inj hu hym mu2
     rw [if_pos rfl] at e
     by_cases mv : v.f0.f0 = z.f0.f0
     ·obtain rfl := h.inj hv hzm mv
      rw [if_pos rfl] at e
      have e' : v.f0.f2 = u.f0.f2 := e
      exact U u v hu hv du dv e0 gu' gv' e'.symm
     ·rw [if_neg mv] at e
      by_cases mv2 : v.f0.f0 = u.f0.f0
      ·exact mv2.symm
      ·rw [if_neg mv2] at e
       have e' : z.f0.f2 = v.f0.f2 := e
       exact absurd (U z v hzm hv hzd dv (hyz.symm.trans e0) pz gv' e') (fun q => mv q.symm)
    ·rw [if_neg mu2] at e
     by_cases mv : v.f0.f0 = z.f0.f0
     ·obtain rfl := h.inj hv hzm mv
      rw [if_pos rfl] at e
      have e' : u.f0.f2 = y.f0.f2 := e
      exact absurd (U u y hu hym du hyd (e0.trans hyz.symm) gu' py e') mu2
     ·rw [if_neg mv] at e
      by_cases mv2 : v.f0.f0 = y.f0.f0
      ·obtain rfl := h.inj hv hym mv2
       rw [if_pos rfl] at e
       have e' : u.f0.f2 = z.f0.f2 := e
       exact absurd (U u z hu hzm du hzd (e0.trans hyz) gu' pz e') mu
      ·rw [if_neg mv2] at e
       exact U u v hu hv du dv e0 gu' gv' e
 ·exact h.mono hn
end
theorem word_empty : wordB ⟨#[]⟩ = false := by decide +kernel
theorem word_ne {s : ByteArray} (h : wordB s = true) : s.toList ≠ [] := by
 intro e
 rw [string_emp e, word_empty] at h
 cases h
structure DeedV (x : DE) : Prop where
 keep : 0 ≤ x.f5 ∧ x.f5 ≤ 1000000000
 dest : x.f0 = kRename ∨ x.f0 = kSwap → x.f3.toList ≠ []
 tab : x.f0 = kSwap ∨ x.f0 = kLay → x.f2.toList ≠ []
 base : wordB x.f1 = true
 table : x.f2.toList = [] ∨ wordB x.f2 = true
 toW : x.f0 = kRename ∨ x.f0 = kSwap → wordB x.f3 = true
theorem valid_v {x : DE} (h : validB x = true) : DeedV x := by
 unfold validB at h
 cases hf : flagsOf x.f0 with
 | none => rw [hf] at h; cases h
 | some F =>
  rw [hf] at h
  have h' : (preB F x && restB F x) = true := h
  rw [Bool.and_eq_true] at h'
  obtain ⟨h1, h2⟩ := h'
  unfold preB at h1
  unfold restB at h2
  rw [Bool.and_eq_true] at h1
  simp only [Bool.and_eq_true] at h2
  obtain ⟨⟨⟨-, hk⟩, -⟩, hto⟩ := h2
  have hw : (x.f0 = kRename ∨ x.f0 = kSwap) → F.t = true := by
   rintro (e | e)
   ·rw [e] at hf; simp [flagsOf, show kRename ≠ kCreate by decide, show kRename ≠ kDrop by decide, show kRename ≠ kUndrop by decide] at hf; rw [← hf]
   ·rw [e] at hf; simp [flagsOf, show kSwap ≠ kCreate by decide, show kSwap ≠ kDrop by decide, show kSwap ≠ kUndrop by decide, show kSwap ≠ kRename by decide] at hf; rw [← hf]
  have hd : (x.f0 = kSwap ∨ x.f0 = kLay) → F.d = false := by
   rintro (e | e)
   ·rw [e] at hf; simp [flagsOf, show kSwap ≠ kCreate by decide, show kSwap ≠ kDrop by decide, show kSwap ≠ kUndrop by decide, show kSwap ≠ kRename by decide] at hf; rw [← hf]
   ·rw [e] at hf; simp [flagsOf, show kLay ≠ kCreate by decide, show kLay ≠ kDrop by decide, show kLay ≠ kUndrop by decide, show kLay ≠ kRename by decide, show kLay ≠ kSwap by decide] at hf; rw [← hf]
  have htw : (x.f0 = kRename ∨ x.f0 = kSwap) → wordB x.f3 = true := fun e => by rw [if_pos (hw e)] at hto; exact hto
  refine ⟨?_, fun e => word_ne (htw e), fun e ht => ?_, h1.1, ?_, htw⟩
  ·simp only [Bool.or_eq_true, Bool.and_eq_true, decide_eq_true_eq] at hk
   omega
  ·have hof : ofB x = false := by simp [ofB, ht]
   rw [hof, if_neg (by simp), hd e] at h1
   cases h1.2
  ·by_cases ht : x.f2.toList = []
   ·exact .inl ht
   ·have hof : ofB x = true := by simp [ofB, ht]
    rw [hof, if_pos rfl, Bool.and_eq_true] at h1
    exact .inr h1.2.1
theorem deed_inv {n : Int} {es : List EN} (h : EInv n es) (d : Dr) {x : DE} (hn : n ≤ d.commit) (hc : 1 ≤ d.commit) (hv : validB x = true) : EInv d.commit (deedBy d es x).2 := by
 have v := valid_v hv
 unfold deedBy
 split
 ·exact create_inv h d x hn hc v.keep
 split
 ·exact drop_inv h d x hn hc
 split
 ·exact undrop_inv h d x hn hc
 split
 ·rename_i e; exact rename_inv h d x hn hc (v.dest (.inl e))
 split
 ·rename_i e; exact swap_inv h d x hn (v.tab (.inl e)) (v.dest (.inr e))
 split
 ·exact lay_inv h d x hn
 ·exact keep_inv h d x hn v.keep
def Kin (es es' : List EN) : Prop := ∀ (i : Nat) (y : EN), es[i]? = some y → ∃ y', es'[i]? = some y' ∧ y'.f0.f6 = y.f0.f6 ∧ y'.f1 = y.f1 ∧ (isDb y' ↔ isDb y)
theorem Kin.refl (es : List EN) : Kin es es := fun _ y hy => ⟨y, hy, rfl, rfl, Iff.rfl⟩
theorem Kin.trans {a b c : List EN} (h : Kin a b) (k : Kin b c) : Kin a c := fun i y hy => by
 obtain ⟨y1, h1, h2, h3, h4⟩ := h i y hy
 obtain ⟨y2, k1, k2, k3, k4⟩ := k i y1 h1
 exact ⟨y2, k1, k2.trans h2, k3.trans h3, k4.trans h4⟩
theorem Kin.set {es : List EN} {i : Nat} {y : EN} {f : EN → EN} (hy : es[i]? = some y) (h6 : (f y).f0.f6 = y.f0.f6) (h1 : (f y).f1 = y.f1) (hd : isDb (f y) ↔ isDb y) : Kin es (setE es i f) := fun j z hz => by
 rw [set_E hy]
 by_cases hj : i = j
 ·subst hj
  rw [hz] at hy; cases hy
  exact ⟨_, List.getElem?_set_self (List.getElem?_eq_some_iff.1 hz).1, h6, h1, hd⟩
 ·exact ⟨z, by rw [List.getElem?_set_ne hj]; exact hz, rfl, rfl, Iff.rfl⟩
theorem Kin.tabs {es : List EN} {home : Int} {g : EN → EN} (h6 : ∀ y, (g y).f0.f6 = y.f0.f6) (h1 : ∀ y, (g y).f1 = y.f1) (hd : ∀ y, isDb (g y) ↔ isDb y) : Kin es (es.map (tabs home g)) := fun j z hz => by
 refine ⟨_, by rw [List.getElem?_map, hz]; rfl, ?_, ?_, ?_⟩
 ·unfold Go.Proofs.Ytcfgcmjnailndaa.tabs; split
  ·exact h6 z
  ·rfl
 ·unfold Go.Proofs.Ytcfgcmjnailndaa.tabs; split
  ·exact h1 z
  ·rfl
 ·unfold Go.Proofs.Ytcfgcmjnailndaa.tabs; split
  ·exact hd z
  ·exact Iff.rfl
theorem Kin.push (es : List EN) (e : EN) : Kin es (es ++ [e]) := fun j z hz => ⟨z, by rw [List.getElem?_append_left (List.getElem?_eq_some_iff.1 hz).1]; exact hz, rfl, rfl, Iff.rfl⟩
theorem Kin.len {es es' : List EN} (h : Kin es es') : es.length ≤ es'.length := by
 by_cases h0 : es.length = 0
 ·omega
 ·obtain ⟨y, hy⟩ : ∃ y, es[es.length - 1]? = some y := ⟨_, List.getElem?_eq_getElem (by omega)⟩
  obtain ⟨y', h1, -⟩ := h _ y hy
  have := (List.getElem?_eq_some_iff.1 h1).1
  omega
theorem deed_kin {es : List EN} (d : Dr) {x : DE} (hv : validB x = true) : Kin es (deedBy d es x).2 := by
 have v := valid_v hv
 have hund : ∀ bid, Kin es (undropAt d es x bid).2 := fun bid => by
  unfold undropAt
  split
  ·exact Kin.refl _
  ·rename_i i hi
   split
   ·exact Kin.refl _
   ·dsimp only
    split
    ·exact Kin.refl _
    ·obtain ⟨y, hy, -, -⟩ := dropped_is hi
     exact (Kin.set hy rfl rfl Iff.rfl).trans (Kin.tabs (fun y => by unfold backT; split <;> rfl) (fun y => by unfold backT; split <;> rfl) (fun y => by unfold backT; split <;> rfl))
 unfold deedBy
 split
 ·unfold create
  split
  ·split
   ·exact Kin.refl _
   ·exact Kin.push _ _
  ·split
   ·exact Kin.refl _
   ·split
    ·exact Kin.refl _
    ·exact Kin.push _ _
 split
 ·unfold drop
  split
  ·exact Kin.refl _
  ·rename_i i hi
   obtain ⟨y, hy⟩ := find_get hi
   have h1 : Kin es (setE es i (gone1 d.commit)) := Kin.set hy rfl rfl Iff.rfl
   dsimp only
   split
   ·exact h1.trans (Kin.tabs (fun y => by unfold goneT; split <;> rfl) (fun y => by unfold goneT; split <;> rfl) (fun y => by unfold goneT; split <;> rfl))
   ·exact h1
 split
 ·unfold undrop
  split
  ·exact hund 0
  ·split
   ·exact Kin.refl _
   ·exact hund _
 split
 ·rename_i e
  unfold rename
  split
  ·exact Kin.refl _
  ·rename_i i hi
   have hto := v.dest (.inl e)
   rcases find_is hi with ⟨ht, y, hy, hd, hb, hg⟩ | ⟨ht, y, b, hy, hbm, hbd, hbn, hbg, e1, e2, hg⟩
   ·rw [if_pos ht]
    split
    ·exact Kin.refl _
    ·exact (Kin.set (f := names1 x.f3 x.f2) hy rfl rfl ⟨fun _ => hd, fun _ => ht⟩).trans (Kin.tabs (fun y => by unfold baseT; split <;> rfl) (fun y => by unfold baseT; split <;> rfl) (fun y => by unfold baseT; split <;> rfl))
   ·rw [if_neg ht]
    split
    ·exact Kin.refl _
    ·refine Kin.set (f := names1 x.f1 x.f3) hy rfl rfl ⟨fun q => absurd q hto, fun q => ?_⟩
     unfold isDb at q
     rw [e2] at q
     exact absurd q ht
 split
 ·rename_i e
  unfold swap
  split
  ·rename_i i k hi hk
   have ht := v.tab (.inl e)
   have hto := v.dest (.inr e)
   obtain ⟨y, b, hy, -, -, -, -, -, e2, -⟩ := in_is hi
   obtain ⟨z, b', hz, -, -, -, -, -, e2', -⟩ := in_is hk
   have hyd0 : es.getD i z64 = y := by simp [List.getD_eq_getElem?_getD, hy]
   have hzd0 : es.getD k z64 = z := by simp [List.getD_eq_getElem?_getD, hz]
   show Kin es (setE (setE es i (table1 (es.getD k z64).f0.f2)) k (table1 (es.getD i z64).f0.f2))
   rw [hyd0, hzd0]
   have hyn : ¬ isDb y := by unfold isDb; rw [e2]; exact ht
   have hzn : ¬ isDb z := by unfold isDb; rw [e2']; exact hto
   have h1 : Kin es (setE es i (table1 z.f0.f2)) := Kin.set hy rfl rfl ⟨fun q => absurd q hzn, fun q => absurd q hyn⟩
   obtain ⟨z', hz', -, -, hzd⟩ := h1 k z hz
   have hzn' : ¬ isDb z' := fun q => hzn (hzd.1 q)
   exact h1.trans (Kin.set hz' rfl rfl ⟨fun q => absurd q hyn, fun q => absurd q hzn'⟩)
  ·exact Kin.refl _
 split
 ·unfold lay
  split
  ·exact Kin.refl _
  ·rename_i i hi
   obtain ⟨y, hy⟩ := find_get hi
   exact Kin.set hy rfl rfl Iff.rfl
 ·unfold keepIt
  split
  ·exact Kin.refl _
  ·rename_i i hi
   obtain ⟨y, hy⟩ := find_get hi
   exact Kin.set hy rfl rfl Iff.rfl
theorem done_inv (d : Dr) (hc : 1 ≤ d.commit) : ∀ (xs : List DE) (es : List EN), (∀ x ∈ xs, validB x = true) → EInv d.commit es → EInv d.commit (doneBy d es xs).2 ∧ Kin es (doneBy d es xs).2
 | [], es, _, h => by unfold doneBy; split <;> exact ⟨h, Kin.refl _⟩
 | x :: r, es, hx, h => by
  have h1 := deed_inv h d (Int.le_refl _) hc (hx x (by simp))
  have k1 := deed_kin (es := es) d (hx x (by simp))
  unfold doneBy
  dsimp only
  split
  ·obtain ⟨h2, k2⟩ := done_inv d hc r _ (fun y hy => hx y (by simp [hy])) h1
   exact ⟨h2, k1.trans k2⟩
  ·exact ⟨h1, k1⟩
structure SInv (ss : List ST) : Prop where
 pos : 0 < ss.length
 inv : ∀ (k : Nat) (s : ST), ss[k]? = some s → EInv k s.f2
 kin : ∀ (k : Nat) (s t : ST), ss[k]? = some s → ss[k + 1]? = some t → Kin s.f2 t.f2
 time : ∀ s ∈ ss, 0 ≤ s.f0 ∧ s.f0 ≤ 1000000000
 late : ∀ (k : Nat) (s t : ST), ss[k]? = some s → ss[k + 1]? = some t → s.f0 ≤ t.f0
theorem SInv.new : SInv Cat.new := by
 refine ⟨by decide, ?_, ?_, by simp [Cat.new], ?_⟩
 ·intro k s h
  have hk := (List.getElem?_eq_some_iff.1 h).1
  simp [Cat.new] at hk
  subst hk
  simp [Cat.new] at h
  subst h
  exact EInv.nil _
 ·intro k s t h1 h2
  have := (List.getElem?_eq_some_iff.1 h2).1
  simp [Cat.new] at this
 ·intro k s t h1 h2
  have := (List.getElem?_eq_some_iff.1 h2).1
  simp [Cat.new] at this
theorem check_ok {ss : List ST} {time : Int} (h : checkTime ss time = 0) : 0 ≤ time ∧ time ≤ 1000000000 ∧ (lastOf ss).f0 ≤ time := by
 unfold checkTime at h
 split at h
 ·cases h
 ·omega
theorem SInv.commit {ss : List ST} {xs : List DE} {time : Int} (h : SInv ss) : SInv (commitBy ss xs time).2 := by
 rcases commit_cases ss xs time with ⟨e, -, he⟩ | ⟨es, hw, he⟩
 ·rw [he]; exact h
 ·rw [he]
  have hl := last_at h.pos
  have hp := h.pos
  obtain ⟨t1, t2, t3⟩ := check_ok hw.late
  have h0 : EInv (ss.length : Int) (lastOf ss).f2 := (h.inv _ _ hl).mono (by omega)
  obtain ⟨h1, k1⟩ := done_inv ⟨ss.length, time, ss.map (·.f0)⟩ (by show (1 : Int) ≤ ss.length; omega) xs (lastOf ss).f2 hw.valid h0
  rw [hw.done] at h1 k1
  have split : ∀ (k : Nat) (s : ST), (ss ++ [(⟨time, xs, es⟩ : ST)])[k]? = some s → (k < ss.length ∧ ss[k]? = some s) ∨ (k = ss.length ∧ s = ⟨time, xs, es⟩) := by
   intro k s hs
   by_cases hk : k < ss.length
   ·rw [List.getElem?_append_left hk] at hs; exact .inl ⟨hk, hs⟩
   ·have := (List.getElem?_eq_some_iff.1 hs).1
    simp at this
    have : k = ss.length := by omega
    subst this
    simp at hs
    exact .inr ⟨rfl, hs.symm⟩
  refine ⟨by simp, ?_, ?_, ?_, ?_⟩
  ·intro k s hs
   rcases split k s hs with ⟨-, h2⟩ | ⟨rfl, rfl⟩
   ·exact h.inv k s h2
   ·exact h1
  ·intro k s t hs ht
   rcases split (k + 1) t ht with ⟨h2, h3⟩ | ⟨h2, rfl⟩
   ·rcases split k s hs with ⟨-, h4⟩ | ⟨h4, -⟩
    ·exact h.kin k s t h4 h3
    ·omega
   ·rcases split k s hs with ⟨-, h4⟩ | ⟨h4, -⟩
    ·have : k = ss.length - 1 := by omega
     subst this
     rw [hl] at h4; cases h4
     exact k1
    ·omega
  ·intro s hs
   rcases List.mem_append.1 hs with h2 | h2
   ·exact h.time s h2
   ·rw [List.mem_singleton.1 h2]; exact ⟨t1, t2⟩
  ·intro k s t hs ht
   rcases split (k + 1) t ht with ⟨h2, h3⟩ | ⟨h2, rfl⟩
   ·rcases split k s hs with ⟨-, h4⟩ | ⟨h4, -⟩
    ·exact h.late k s t h4 h3
    ·omega
   ·rcases split k s hs with ⟨-, h4⟩ | ⟨h4, -⟩
    ·have : k = ss.length - 1 := by omega
     subst this
     rw [hl] at h4; cases h4
     exact t3
    ·omega
theorem SInv.run : ∀ (l : List SP) {ss : List ST}, SInv ss → SInv (runBy ss l)
 | [], _, h => h
 | _ :: r, _, h => SInv.run r h.commit
theorem made_inv (l : List SP) : SInv (runBy Cat.new l) := SInv.new.run l
theorem R_fr2 {α : Type} {d : Kd α} {e base : Nat} {w w' : World} {v : Value} {xs : List α} {S : List Nat} (h : d.R e w base (fun _ => True) v xs) (hf : Fr S w w') (hS : NoT w d.E S) (hv : ∀ k, v.ownBlock = some k → k ∉ S) : d.R e w' base (fun _ => True) v xs := by
 have hlt := Kd.R_lt h
 obtain ⟨h0, inner, ho, hr⟩ := h
 have h2 : d.R e w base (fun k => k < w.heap.size ∧ k ∉ S) v xs := ⟨fun k hk => ⟨hlt k hk, hv k hk⟩, inner, ho, hr.imp_ (fun _ _ hp => d.M_mono (fun k hk => by
  obtain ⟨⟨-, hne⟩, -, hl, q, hq, cells, hc⟩ := hk
  exact ⟨⟨hl, fun hm => hS k hm q hq cells hc⟩, hne⟩) (d.M_bound hp))⟩
 exact Kd.R_mono (Kd.R_move h2 (fun k hk => hf.block k hk.1 hk.2)) (fun _ _ => trivial)
theorem kS_E2 {q : Nat} (hq : q ∈ kS.E) : q ∈ [31, 83, 3, 64] := by
 simp [kS, kD, kE, kA, Kd.iso, Kd.pair, Kd.int, Kd.string, Kd.scalar, ros, own0, k83] at hq
 simp
 omega
section
variable {w w' : World} {cb : Nat} {v : Value} {ss : List ST}
theorem CatAt.fr2 {S : List Nat} (h : CatAt w cb v ss) (hf : Fr S w w') (h1 : cb ∉ S) (h2 : NoT w [31, 83, 3, 64] S) (h3 : ∀ k, v.ownBlock = some k → k ∉ S) : CatAt w' cb v ss :=
 ⟨hf.blk h.blk h1, R_fr2 h.row hf (fun k hk q hq => h2 k hk q (kS_E2 hq)) h3, h.pos, h.small, h.ents⟩
theorem CatAt.noT (h : CatAt w cb v ss) {E : List Nat} (hE : ∀ q ∈ E, q ≠ 58 ∧ q ≠ 71) : NoT w E (cb :: v.ownBlock.toList) := by
 refine NoT.cons (NoT.one h.blk (fun q hq => (hE q hq).1)) ?_
 cases ho : v.ownBlock with
 | none => exact NoT.nil _ _
 | some k =>
  obtain ⟨cells, hc⟩ := Kd.R_typed h.row k ho
  exact NoT.one hc (fun q hq => (hE q hq).2)
end
structure Live (w0 w : World) (cb : Nat) (v : Value) (ss : List ST) : Prop where
 cat : CatAt w cb v ss
 cb : w0.heap.size ≤ cb
 own : ∀ k, v.ownBlock = some k → w0.heap.size ≤ k
section
variable {w0 w w' : World} {cb : Nat} {v : Value} {ss : List ST}
theorem Live.fr0 (h : Live w0 w cb v ss) (f : Fr [] w w') : Live w0 w' cb v ss := ⟨h.cat.fr0 f, h.cb, h.own⟩
theorem Live.after {w1 : World} (h : Live w1 w cb v ss) (f : Fr [] w0 w1) : Live w0 w cb v ss := ⟨h.cat, Nat.le_trans f.size h.cb, fun k hk => Nat.le_trans f.size (h.own k hk)⟩
theorem Live.commit {r : (Int × Int) × List ST} {e : Ending} (h : Live w0 w cb v ss) (f : Fr [] w0 w) (hq : Forced cb v r w e w') : e = .returned (.tuple #[.int .i64 r.1.1, .int .i64 r.1.2]) ∧ Fr (cb :: v.ownBlock.toList) w w' ∧ Fr [] w0 w' ∧ ∃ v', Live w0 w' cb v' r.2 ∧ ∀ k, v'.ownBlock = some k → v.ownBlock = some k ∨ w.heap.size ≤ k := by
 obtain ⟨he, v', hc, hf, ho⟩ := hq
 refine ⟨he, hf, f.trans hf (fun z hz => .inr ?_), v', ⟨hc, h.cb, fun k hk => ?_⟩, ho⟩
 ·rcases List.mem_cons.1 hz with rfl | hz
  ·exact h.cb
  ·exact h.own z (by simpa using hz)
 ·rcases ho k hk with h1 | h1
  ·exact h.own k h1
  ·exact Nat.le_trans f.size h1
structure Apart2 (cb : Nat) (v : Value) (cb2 : Nat) (v2 : Value) : Prop where
 cb : cb ≠ cb2
 own : ∀ k, v.ownBlock = some k → v2.ownBlock ≠ some k
theorem Live.other {cb2 : Nat} {v2 : Value} {ss2 : List ST} (h : Live w0 w cb2 v2 ss2) (hc : CatAt w cb v ss) (ha : Apart2 cb v cb2 v2) (f : Fr (cb :: v.ownBlock.toList) w w') : Live w0 w' cb2 v2 ss2 := by
 have hown : ∀ k, v.ownBlock = some k → k ≠ cb2 := by
  rintro k hk rfl
  obtain ⟨cells, hb⟩ := Kd.R_typed hc.row k hk
  rw [h.cat.blk] at hb
  injection hb with hb; injection hb with _ hb; exact absurd hb (by decide)
 have hcb : v2.ownBlock ≠ some cb := by
  intro hk
  obtain ⟨cells, hb⟩ := Kd.R_typed h.cat.row cb hk
  rw [hc.blk] at hb
  injection hb with hb; injection hb with _ hb; exact absurd hb (by decide)
 refine ⟨h.cat.fr2 f ?_ (hc.noT (by decide)) ?_, h.cb, h.own⟩
 ·intro hm
  rcases List.mem_cons.1 hm with h1 | h1
  ·exact ha.cb h1.symm
  ·exact hown cb2 (by simpa using h1) rfl
 ·intro k hk hm
  rcases List.mem_cons.1 hm with rfl | h1
  ·exact hcb hk
  ·exact ha.own k (by simpa using h1) hk
theorem Apart2.grown {cb2 : Nat} {v2 v' : Value} {ss2 : List ST} (ha : Apart2 cb v cb2 v2) (h : CatAt w cb2 v2 ss2) (ho : ∀ k, v'.ownBlock = some k → v.ownBlock = some k ∨ w.heap.size ≤ k) : Apart2 cb v' cb2 v2 := by
 refine ⟨ha.cb, fun k hk h2 => ?_⟩
 rcases ho k hk with h1 | h1
 ·exact ha.own k h1 h2
 ·have := Kd.R_lt h.row k h2
  omega
end
theorem steps_at {w : World} {A : Option Addr} {n k : Nat} {xs : List SP} {x : SP} (h : Kd.C kP w A n xs) (hx : xs[k]? = some x) :
  ∃ b off A0 c0, A = some ⟨b, off, none⟩ ∧ w.cell? ⟨b, off + k * 2, none⟩ = some (.slice A0 x.f0.length c0) ∧ w.cell? ⟨b, off + k * 2 + 1, none⟩ = some (.int .i64 x.f1) ∧ x.f0.length ≤ c0 ∧ Kd.C kJ w A0 x.f0.length x.f0 := by
 have hk := (List.getElem?_eq_some_iff.1 hx).1
 have hn : xs.length = n := h.1
 obtain ⟨ad, A0, c0, e, h0, h1, hl, hC⟩ := at_T25 h (k : Int) (by omega) (by omega)
 rw [rdP hx] at h0 h1 hl hC
 have hsp : ad.spot = none := by
  obtain ⟨ad', _, _, e', h0', _⟩ := at_T25 h 0 (by omega) (by omega)
  rw [e] at e'
  cases e'
  have hs := spot_none h0'
  simpa [Addr.add] using hs
 rw [addr_plain hsp] at e
 have ea : ad.add (((k : Int)).toNat * 2) = ⟨ad.block, ad.off + k * 2, none⟩ := by rw [addr_plain hsp, add_mk]; simp
 rw [ea] at h0 h1
 exact ⟨ad.block, ad.off, A0, c0, e, h0, h1, hl, hC⟩
structure StepsRaw (w : World) (A : Option Addr) (c : Nat) (l : List SP) : Prop where
 row : Kd.C kP w A l.length l
 cap : l.length ≤ c
 raw : ∀ x ∈ l, StepRaw x
theorem StepsRaw.fr {w w' : World} {A : Option Addr} {c : Nat} {l : List SP} (h : StepsRaw w A c l) (f : Fr [] w w') : StepsRaw w' A c l := ⟨Kd.C_below h.row f.below0, h.cap, h.raw⟩
theorem great_of {w : World} {A : Option Addr} {c : Nat} {l : List SP} (h : StepsRaw w A c l) : Calls Try.prog 8 #[.slice A l.length c] w (GreatSays l w) :=
 great_any A c l w h.row h.cap h.raw (Kd.C_max h.row) (fun x hx => by
  obtain ⟨k, hk⟩ := List.mem_iff_getElem?.1 hx
  obtain ⟨b, off, A0, c0, -, -, -, -, hC⟩ := steps_at h.row hk
  exact Kd.C_max hC)
structure StepsIn (w : World) (A : Option Addr) (c : Nat) (l : List SP) : Prop where
 row : Kd.C kP w A l.length l
 cap : l.length ≤ c
 ok : Played l
theorem StepsIn.fr {w w' : World} {A : Option Addr} {c : Nat} {l : List SP} (h : StepsIn w A c l) (f : Fr [] w w') : StepsIn w' A c l := ⟨Kd.C_below h.row f.below0, h.cap, h.ok⟩
theorem StepsRaw.ok {w : World} {A : Option Addr} {c : Nat} {l : List SP} (h : StepsRaw w A c l) (hp : Played l) : StepsIn w A c l := ⟨h.row, h.cap, hp⟩
theorem StepsIn.deeds {w : World} {A : Option Addr} {c : Nat} {l : List SP} {x : SP} {A0 : Option Addr} {c0 : Nat} {k : Nat} (h : StepsIn w A c l) (hx : l[k]? = some x) (hC : Kd.C kJ w A0 x.f0.length x.f0) : ListIn w A0 c0 x.f0 := by
 have hm := List.mem_iff_getElem?.2 ⟨k, hx⟩
 exact ⟨hC, by have := h.ok.deeds x hm; omega, h.ok.ok x hm⟩
set_option maxRecDepth 100000 in
set_option maxHeartbeats 2000000 in
theorem made_any (A : Option Addr) (c : Nat) (l : List SP) (w : World) (h : StepsIn w A c l) :
  Calls Try.prog 10 #[.slice A l.length c] w fun e w' => ∃ cb v, e = .returned (.pointer (some ⟨cb, 0, none⟩)) ∧ Live w w' cb v (runBy Cat.new l) ∧ Fr [] w w' := by
 have H := hid h
 have hl20 := h.ok.len
 clear h
 go_enter Try.func10, Try.ntmps10
 go_wp2_with (go_at_call 23; refine (new_any _).mono ?_; rintro e w1 ⟨cb, v0, rfl, hc, hf, hcb, hown⟩; have L0 : Hid (Live w w1 cb v0 (runBy Cat.new (l.take 0))) := hid ⟨hc, hcb, hown⟩; have F0 := hid hf; clear hc hf hcb hown)
 go_loopw [4] (fun i wr => ∃ (j : Nat) (v : Value), i = .int .i64 j ∧ j ≤ l.length ∧ Live w wr cb v (runBy Cat.new (l.take j)) ∧ Fr [] w wr) (fun i _ => l.length - (intOf i).toNat)
 case atStart => exact ⟨0, v0, rfl, Nat.zero_le _, L0.out, F0.out⟩
 case round =>
  obtain ⟨j, v, rfl, hj, hL, hF⟩ := hrel
  have HL := hid hL
  have HF := hid hF
  clear hL hF
  by_cases hlt : j < l.length
  ·obtain ⟨x, hx⟩ : ∃ x, l[j]? = some x := ⟨_, List.getElem?_eq_getElem hlt⟩
   obtain ⟨b, off, A0, c0, eA, m0, m1, hc0, hCx⟩ := steps_at (H.out.fr HF.out).row hx
   subst eA
   have LI := hid ((H.out.fr HF.out).deeds (c0 := c0) hx hCx)
   have HX := hid hx
   have hm0 : (0 : Int) ≤ (j : Int) := by omega
   have hm1 : (j : Int) < (l.length : Int) := by omega
   clear hx hCx
   go_wp2_with fail
   go_still_tail 11, (by kernel_rfl)
   change wpList _ _ _ _ _ wr.drew
   go_wp2_with (go_at_call 11; refine (committed cb v _ A0 c0 x.f0 x.f1 wr.drew (HL.out.fr0 (Fr.refl [] wr).drew).cat (LI.out.below (Fr.refl [] wr).drew)).mono ?_; intro e w3 hq; obtain ⟨rfl, hf3, hff, v', hlv, -⟩ := (HL.out.fr0 (Fr.refl [] wr).drew).commit HF.out.drew hq; have F3 := hid hff; have L3 := hid hlv; clear hq hf3 hff hlv)
   go_roundw
   case rel => exact ⟨j + 1, v', by go_num, by omega, by rw [run_take HX.out]; exact L3.out, F3.out⟩
   case measure => simp [intOf]; omega
  ·obtain rfl : j = l.length := by omega
   have hL := HL.out
   rw [List.take_length] at hL
   have HL2 := hid hL
   clear hL
   go_wp2
   go_ret
   exact ⟨cb, v, rfl, HL2.out, HF.out⟩
def allOf (s : ST) : List AE := picked isAny s.f2
theorem lit_rows {α : Type} (d : Kd α) (e : TypeId) (W : World) (xs : List α) (cs : List Value) (hl : xs.length ≤ 9223372036854775807) (h : Reps (d.M W 0 (fun k => some k ≠ some W.heap.size)) d.sz xs cs) :
  d.R e (W.alloc (.cells cs.toArray e)) 0 (fun _ => True) (.slice (some ⟨W.heap.size, 0, none⟩) xs.length xs.length) xs := by
 refine ⟨fun _ _ => trivial, OwnRow.lit W 0 (inner := cs) (ps := xs) (h.imp_ (fun x c hx => ?_)) (Nat.zero_le _) hl⟩
 refine d.M_mono ?_ (d.M_move (fun k hk => ?_) (d.M_bound hx))
 ·rintro k ⟨h1, -⟩; exact ⟨trivial, h1⟩
 ·exact heap_alloc_old W _ hk.2.2.1
theorem M_new {α : Type} {d : Kd α} {w : World} {x : α} {cs : List Value} (h : d.M w 0 (fun _ => True) x cs) : d.M w 0 (fun k => some k ≠ some w.heap.size) x cs :=
 d.M_mono (fun k hk => by have := hk.2.2.1; intro e; injection e with e; omega) (d.M_bound h)
structure DeedMem (w : World) (x : DE) (A4 : Option Addr) (c4 : Nat) (A6 : Option Addr) (c6 : Nat) : Prop where
 r4 : kC.R 83 w 0 (fun _ => True) (.slice A4 x.f4.length c4) x.f4
 r6 : kI.R 3 w 0 (fun _ => True) (.slice A6 x.f6.length c6) x.f6
theorem DeedMem.fr0 {w w' : World} {x : DE} {A4 : Option Addr} {c4 : Nat} {A6 : Option Addr} {c6 : Nat} (h : DeedMem w x A4 c4 A6 c6) (f : Fr [] w w') : DeedMem w' x A4 c4 A6 c6 := ⟨R_fr0 h.r4 f, R_fr0 h.r6 f⟩
theorem DeedMem.M {w : World} {x : DE} {A4 : Option Addr} {c4 : Nat} {A6 : Option Addr} {c6 : Nat} (h : DeedMem w x A4 c4 A6 c6) : kD.M w 0 (fun k => some k ≠ some w.heap.size) x [.string x.f0, .string x.f1, .string x.f2, .string x.f3, .slice A4 x.f4.length c4, .int .i64 x.f5, .slice A6 x.f6.length c6] :=
 M_new (kD_mk x (ros_of_R h.r4) (ros_of_R h.r6))
theorem deed_mk (x : DE) (hx : cirruslaw10_deed.f x.f0 x.f1 x.f2 x.f5 = some (x.f0, x.f1, x.f2, x.f3, x.f4, x.f5, x.f6)) (w : World) :
  Calls Try.prog 21 #[.string x.f0, .string x.f1, .string x.f2, .int .i64 x.f5] w fun e w' => ∃ A4 c4 A6 c6, e = .returned (deedV x A4 c4 A6 c6) ∧ DeedMem w' x A4 c4 A6 c6 ∧ Fr [] w w' := by
 refine (cirruslaw10_deed.calls x.f0 x.f1 x.f2 x.f5 _ _ _ _ _ _ _ w hx).mono fun e w' ⟨v4, v6, he, r4, r6, hb⟩ => ?_
 obtain ⟨A4, c4, rfl⟩ := Kd.R_slice r4
 obtain ⟨A6, c6, rfl⟩ := Kd.R_slice r6
 exact ⟨A4, c4, A6, c6, he, ⟨Kd.R_lower r4 (Nat.zero_le _), Kd.R_lower r6 (Nat.zero_le _)⟩, Fr.of_below hb⟩
theorem list_one {w : World} {x : DE} {A4 : Option Addr} {c4 : Nat} {A6 : Option Addr} {c6 : Nat} (h : DeedMem w x A4 c4 A6 c6) (hi : DeedIn x) :
  ListIn (w.alloc (.cells #[.string x.f0, .string x.f1, .string x.f2, .string x.f3, .slice A4 x.f4.length c4, .int .i64 x.f5, .slice A6 x.f6.length c6] 31)) (some ⟨w.heap.size, 0, none⟩) 1 [x] := by
 have hr : Reps (kD.M w 0 (fun k => some k ≠ some w.heap.size)) kD.sz [x] [.string x.f0, .string x.f1, .string x.f2, .string x.f3, .slice A4 x.f4.length c4, .int .i64 x.f5, .slice A6 x.f6.length c6] := by
  have := (Reps.none (kD.M w 0 (fun k => some k ≠ some w.heap.size)) kD.sz).snoc h.M rfl
  simpa using this
 have r := lit_rows kD 31 w [x] _ (by simp) hr
 obtain ⟨-, -, hC⟩ := Kd.R_reads' r
 exact ⟨hC, by simp, by simpa using hi⟩
theorem list_two {w : World} {x y : DE} {A4 : Option Addr} {c4 : Nat} {A6 : Option Addr} {c6 : Nat} {B4 : Option Addr} {b4 : Nat} {B6 : Option Addr} {b6 : Nat} (h : DeedMem w x A4 c4 A6 c6) (h' : DeedMem w y B4 b4 B6 b6) (hi : DeedIn x) (hi' : DeedIn y) :
  ListIn (w.alloc (.cells #[.string x.f0, .string x.f1, .string x.f2, .string x.f3, .slice A4 x.f4.length c4, .int .i64 x.f5, .slice A6 x.f6.length c6, .string y.f0, .string y.f1, .string y.f2, .string y.f3, .slice B4 y.f4.length b4, .int .i64 y.f5, .slice B6 y.f6.length b6] 31)) (some ⟨w.heap.size, 0, none⟩) 2 [x, y] := by
 have hr : Reps (kD.M w 0 (fun k => some k ≠ some w.heap.size)) kD.sz [x, y] [.string x.f0, .string x.f1, .string x.f2, .string x.f3, .slice A4 x.f4.length c4, .int .i64 x.f5, .slice A6 x.f6.length c6, .string y.f0, .string y.f1, .string y.f2, .string y.f3, .slice B4 y.f4.length b4, .int .i64 y.f5, .slice B6 y.f6.length b6] := by
  have := ((Reps.none (kD.M w 0 (fun k => some k ≠ some w.heap.size)) kD.sz).snoc h.M rfl).snoc h'.M rfl
  simpa using this
 have r := lit_rows kD 31 w [x, y] _ (by simp) hr
 obtain ⟨-, -, hC⟩ := Kd.R_reads' r
 exact ⟨hC, by simp, by simp [hi, hi']⟩
def sA : ByteArray := ⟨#[97]⟩
def sT : ByteArray := ⟨#[116]⟩
def sE : ByteArray := ⟨#[]⟩
def dA : DE := ⟨kCreate, sA, sE, sE, [], 2, []⟩
def dT : DE := ⟨kCreate, sA, sT, sE, [⟨sA, 2⟩], 9, []⟩
def dX : DE := ⟨kDrop, sA, sE, sE, [], 0, []⟩
def dU : DE := ⟨kUndrop, sA, sE, sE, [], 0, []⟩
def aw1 : List ST := (commitBy Cat.new [dA, dT] 5).2
def aw2 : List ST := (commitBy aw1 [dX] 7).2
def aw3 : List ST := (commitBy aw2 [dU] 10).2
def aw4 : List ST := (commitBy aw2 [dU] 9).2
theorem aw1_is : (commitBy Cat.new [dA, dT] 5).1 = (1, 0) := by decide +kernel
theorem aw2_is : (commitBy aw1 [dX] 7).1 = (2, 0) := by decide +kernel
theorem aw3_is : (commitBy aw2 [dU] 10).1 = (0, 9) := by decide +kernel
theorem aw4_is : (commitBy aw2 [dU] 9).1 = (3, 0) := by decide +kernel
theorem aw_find : (findBy aw4 3 sA sT).2 = 0 ∧ (findBy aw4 3 sA sT).1.f0 = 2 ∧ (findBy aw4 3 sA sT).1.f6 = 1 := by decide +kernel
theorem aw_gone : (findBy aw3 2 sA sT).2 = 4 := by decide +kernel
theorem aw_list : (listBy aw3 1).1.length = 2 ∧ (listBy aw3 1).2 = 0 := by decide +kernel
theorem in_dA : DeedIn dA := ⟨by decide, by decide, by decide, by decide, by simp [dA], by decide⟩
theorem in_dT : DeedIn dT := ⟨by decide, by decide, by decide, by decide, by simp [dT]; decide, by decide⟩
theorem in_dX : DeedIn dX := ⟨by decide, by decide, by decide, by decide, by simp [dX], by decide⟩
theorem in_dU : DeedIn dU := ⟨by decide, by decide, by decide, by decide, by simp [dU], by decide⟩
theorem aw1_pos : 0 < aw1.length := by decide +kernel
theorem aw2_pos : 0 < aw2.length := by decide +kernel
theorem aw1_ok : CatOk aw1 := commit_ok new_ok (by decide) (by simp [in_dA, in_dT])
theorem aw2_ok : CatOk aw2 := commit_ok aw1_ok aw1_pos (by simp [in_dX])
theorem aw3_ok : CatOk aw3 := commit_ok aw2_ok aw2_pos (by simp [in_dU])
theorem aw4_ok : CatOk aw4 := commit_ok aw2_ok aw2_pos (by simp [in_dU])
theorem mk_dA : cirruslaw10_deed.f dA.f0 dA.f1 dA.f2 dA.f5 = some (dA.f0, dA.f1, dA.f2, dA.f3, dA.f4, dA.f5, dA.f6) := by
 unfold cirruslaw10_deed.f; rw [if_pos (by decide +kernel), if_pos (by decide +kernel)]; rfl
theorem mk_dT : cirruslaw10_deed.f dT.f0 dT.f1 dT.f2 dT.f5 = some (dT.f0, dT.f1, dT.f2, dT.f3, dT.f4, dT.f5, dT.f6) := by
 unfold cirruslaw10_deed.f; rw [if_pos (by decide +kernel), if_neg (by decide +kernel)]; rfl
theorem mk_dX : cirruslaw10_deed.f dX.f0 dX.f1 dX.f2 dX.f5 = some (dX.f0, dX.f1, dX.f2, dX.f3, dX.f4, dX.f5, dX.f6) := by
 unfold cirruslaw10_deed.f; rw [if_neg (by decide +kernel)]; rfl
theorem mk_dU : cirruslaw10_deed.f dU.f0 dU.f1 dU.f2 dU.f5 = some (dU.f0, dU.f1, dU.f2, dU.f3, dU.f4, dU.f5, dU.f6) := by
 unfold cirruslaw10_deed.f; rw [if_neg (by decide +kernel)]; rfl
theorem awk_deed (x : DE) (op base table : ByteArray) (keep : Int) (e0 : op = x.f0) (e1 : base = x.f1) (e2 : table = x.f2) (e3 : keep = x.f5) (hx : cirruslaw10_deed.f x.f0 x.f1 x.f2 x.f5 = some (x.f0, x.f1, x.f2, x.f3, x.f4, x.f5, x.f6)) (w : World) :
  Calls Try.prog 21 #[.string op, .string base, .string table, .int .i64 keep] w fun e w' => ∃ A4 c4 A6 c6, e = .returned (deedV x A4 c4 A6 c6) ∧ DeedMem w' x A4 c4 A6 c6 ∧ Fr [] w w' := by
 subst e0 e1 e2 e3
 exact deed_mk x hx w
set_option maxRecDepth 100000 in
set_option maxHeartbeats 8000000 in
theorem awake_any (w : World) :
  Calls Try.prog 9 #[] w fun e w' => e = .returned (.bool true) ∧ Fr [] w w' := by
 go_enter Try.func9, Try.ntmps9
 dsimp only [List.append]
 go_wp2_with fail
 refine (new_any _).mono ?_
 rintro e w1 ⟨cb, v0, rfl, hc, f1, hcb, hown⟩
 have L1 : Hid (Live w w1 cb v0 Cat.new) := hid ⟨hc, hcb, hown⟩
 have F1 := hid f1
 clear hc f1 hcb hown
 go_wp2_with fail
 refine (awk_deed dA _ _ _ _ rfl rfl rfl rfl mk_dA _).mono ?_
 rintro e w2 ⟨A4, c4, A6, c6, rfl, d1, f2⟩
 have D1 := hid d1
 have F2 := hid (F1.out.then f2)
 have L2 := hid (L1.out.fr0 f2)
 clear d1 f2 L1 F1
 unfold deedV
 go_wp2_with fail
 refine (awk_deed dT _ _ _ _ rfl rfl rfl rfl mk_dT _).mono ?_
 rintro e w3 ⟨B4, b4, B6, b6, rfl, d2, f3⟩
 have LI := hid (list_two (D1.out.fr0 f3) d2 in_dA in_dT)
 have F3 := hid (F2.out.then f3)
 have L3 := hid (L2.out.fr0 f3)
 clear d2 f3 L2 F2 D1
 unfold deedV
 go_wp2_with fail
 refine (committed cb v0 Cat.new _ 2 [dA, dT] 5 _ (L3.out.fr0 ((Fr.refl [] w3).alloc _)).cat LI.out).mono ?_
 intro e w4 hq
 obtain ⟨he, -, hff, v1, hlv, -⟩ := (L3.out.fr0 ((Fr.refl [] w3).alloc _)).commit (F3.out.alloc _) hq
 rw [aw1_is] at he
 subst he
 have L4 : Hid (Live w w4 cb v1 aw1) := hid hlv
 have F4 := hid hff
 clear hq hlv hff LI L3 F3
 go_wp2_with fail
 refine (awk_deed dX _ _ _ _ rfl rfl rfl rfl mk_dX _).mono ?_
 rintro e w5 ⟨A4, c4, A6, c6, rfl, d1, f1⟩
 have LI := hid (list_one d1 in_dX)
 have F5 := hid (F4.out.then f1)
 have L5 := hid (L4.out.fr0 f1)
 clear d1 f1 L4 F4
 unfold deedV
 go_wp2_with fail
 refine (committed cb v1 aw1 _ 1 [dX] 7 _ (L5.out.fr0 ((Fr.refl [] w5).alloc _)).cat LI.out).mono ?_
 intro e w6 hq
 obtain ⟨he, -, hff, v2, hlv, -⟩ := (L5.out.fr0 ((Fr.refl [] w5).alloc _)).commit (F5.out.alloc _) hq
 rw [aw2_is] at he
 subst he
 have L6 : Hid (Live w w6 cb v2 aw2) := hid hlv
 have F6 := hid hff
 clear hq hlv hff LI L5 F5
 go_wp2_with fail
 refine (clone_any cb v2 aw2 _ L6.out.cat).mono ?_
 rintro e w7 ⟨db, u2, rfl, hc, f7, hdb, hown⟩
 have D7 : Hid (Live w w7 db u2 aw2) := hid (Live.after ⟨hc, hdb, hown⟩ F6.out)
 have AP : Hid (Apart2 cb v2 db u2) := hid ⟨by have := L6.out.cat.lt; omega, fun k hk h2 => by have := Kd.R_lt L6.out.cat.row k hk; have := hown k h2; omega⟩
 have L7 := hid (L6.out.fr0 f7)
 have F7 := hid (F6.out.then f7)
 clear hc f7 hdb hown L6 F6
 go_wp2_with fail
 refine (awk_deed dU _ _ _ _ rfl rfl rfl rfl mk_dU _).mono ?_
 rintro e w8 ⟨A4, c4, A6, c6, rfl, d1, f1⟩
 have LI := hid (list_one d1 in_dU)
 have F8 := hid (F7.out.then f1)
 have L8 := hid (L7.out.fr0 f1)
 have D8 := hid (D7.out.fr0 f1)
 clear d1 f1 L7 F7
 unfold deedV
 go_wp2_with fail
 refine (committed cb v2 aw2 _ 1 [dU] 10 _ (L8.out.fr0 ((Fr.refl [] w8).alloc _)).cat LI.out).mono ?_
 intro e w9 hq
 obtain ⟨he, hf3, hff, v3, hlv, hov⟩ := (L8.out.fr0 ((Fr.refl [] w8).alloc _)).commit (F8.out.alloc _) hq
 rw [aw3_is] at he
 subst he
 have L9 : Hid (Live w w9 cb v3 aw3) := hid hlv
 have D9 : Hid (Live w w9 db u2 aw2) := hid ((D8.out.fr0 ((Fr.refl [] w8).alloc _)).other (L8.out.fr0 ((Fr.refl [] w8).alloc _)).cat AP.out hf3)
 have AP9 : Hid (Apart2 cb v3 db u2) := hid (AP.out.grown (D8.out.fr0 ((Fr.refl [] w8).alloc _)).cat hov)
 have F9 := hid hff
 clear hq hlv hff hf3 hov LI L8 F8 D7 D8 AP
 go_wp2_with fail
 refine (awk_deed dU _ _ _ _ rfl rfl rfl rfl mk_dU _).mono ?_
 rintro e w10 ⟨A4, c4, A6, c6, rfl, d1, f1⟩
 have LI := hid (list_one d1 in_dU)
 have F10 := hid (F9.out.then f1)
 have L10 := hid (L9.out.fr0 f1)
 have D10 := hid (D9.out.fr0 f1)
 clear d1 f1 L9 F9
 unfold deedV
 go_wp2_with fail
 refine (committed db u2 aw2 _ 1 [dU] 9 _ (D10.out.fr0 ((Fr.refl [] w10).alloc _)).cat LI.out).mono ?_
 intro e w11 hq
 obtain ⟨he, hf3, hff, u3, hlv, hov⟩ := (D10.out.fr0 ((Fr.refl [] w10).alloc _)).commit (F10.out.alloc _) hq
 rw [aw4_is] at he
 subst he
 have D11 : Hid (Live w w11 db u3 aw4) := hid hlv
 have L11 : Hid (Live w w11 cb v3 aw3) := hid ((L10.out.fr0 ((Fr.refl [] w10).alloc _)).other (D10.out.fr0 ((Fr.refl [] w10).alloc _)).cat ⟨AP9.out.cb.symm, fun k h1 h2 => AP9.out.own k h2 h1⟩ hf3)
 have F11 := hid hff
 clear hq hlv hff hf3 hov LI L10 F10 D9 D10 AP9
 go_wp2_with fail
 refine (found_any db u3 aw4 3 sA sT _ D11.out.cat aw4_ok (by decide) (by decide)).mono ?_
 rintro e w12 ⟨P3, p3, P4, p4, he, -, -, f12⟩
 have L12 := hid (L11.out.fr0 f12)
 have F12 := hid (F11.out.then f12)
 obtain ⟨g1, g2, g3⟩ := aw_find
 unfold apiV at he
 rw [g1, g2, g3] at he
 subst he
 clear f12 g1 g2 g3 L11 F11 D11
 go_wp2_with fail
 have L13 := hid (L12.out.fr0 ((Fr.refl [] w12).alloc (.cells #[.int .i64 2, .string (findBy aw4 3 sA sT).1.f1, .string (findBy aw4 3 sA sT).1.f2, .slice P3 (findBy aw4 3 sA sT).1.f3.length p3, .slice P4 (findBy aw4 3 sA sT).1.f4.length p4, .int .i64 (findBy aw4 3 sA sT).1.f5, .int .i64 1, .int .i64 (findBy aw4 3 sA sT).1.f7, .int .i64 (findBy aw4 3 sA sT).1.f8] 49)))
 have F13 := hid (F12.out.alloc (.cells #[.int .i64 2, .string (findBy aw4 3 sA sT).1.f1, .string (findBy aw4 3 sA sT).1.f2, .slice P3 (findBy aw4 3 sA sT).1.f3.length p3, .slice P4 (findBy aw4 3 sA sT).1.f4.length p4, .int .i64 (findBy aw4 3 sA sT).1.f5, .int .i64 1, .int .i64 (findBy aw4 3 sA sT).1.f7, .int .i64 (findBy aw4 3 sA sT).1.f8] 49))
 have B13 := hid (heap_alloc_new w12 (.cells #[.int .i64 2, .string (findBy aw4 3 sA sT).1.f1, .string (findBy aw4 3 sA sT).1.f2, .slice P3 (findBy aw4 3 sA sT).1.f3.length p3, .slice P4 (findBy aw4 3 sA sT).1.f4.length p4, .int .i64 (findBy aw4 3 sA sT).1.f5, .int .i64 1, .int .i64 (findBy aw4 3 sA sT).1.f7, .int .i64 (findBy aw4 3 sA sT).1.f8] 49))
 refine (found_any cb v3 aw3 2 sA sT _ L13.out.cat aw3_ok (by decide) (by decide)).mono ?_
 rintro e w14 ⟨Q3, q3, Q4, q4, he, -, -, f14⟩
 have L14 := hid (L13.out.fr0 f14)
 have F14 := hid (F13.out.then f14)
 have B14 := hid (f14.blk B13.out (by simp))
 unfold apiV at he
 rw [aw_gone] at he
 subst he
 clear f14 L12 F12 L13 F13 B13
 go_wp2_with fail
 refine (list_any cb v3 aw3 1 _ (L14.out.fr0 ((Fr.refl [] w14).alloc _)).cat aw3_ok).mono ?_
 rintro e w15 ⟨uu, he, hr, f15, -⟩
 have F15 := hid ((F14.out.alloc _).then f15)
 have B15 := hid (f15.blk (((Fr.refl [] w14).alloc _).blk B14.out (by simp)) (by simp))
 obtain ⟨U, uc, rfl⟩ := Kd.R_slice hr
 rw [aw_list.1, aw_list.2] at he
 subst he
 clear hr f15 L14 F14 B14
 go_wp2_with fail
 refine (commit_nil _ _ _).mono ?_
 rintro e w16 ⟨rfl, rfl⟩
 have n0 := cell_of_row w15 w12.heap.size 0 _ _ _ B15.out
 have n6 := cell_of_row w15 w12.heap.size 6 _ _ _ B15.out
 have z0 : (w15.alloc (.cells #[.slice none 0 0] 58)).cell? ⟨w15.heap.size, 0, none⟩ = some (.slice none 0 0) := cell_of_row _ _ 0 _ _ _ (heap_alloc_new w15 _)
 have hlt := cell_block n0
 simp at n0 n6
 have TZ := hid (time_zero w15.heap.size 1 _ z0)
 have CZ := hid (clone_zero w15.heap.size _ z0)
 go_wp2_with (first
  | (go_at_call 24; refine TZ.out.mono ?_; rintro e w17 ⟨rfl, rfl⟩)
  | (go_at_call 13; refine (count_nil _).mono ?_; rintro e w17 ⟨rfl, rfl⟩)
  | (go_at_call 15; refine CZ.out.mono ?_; rintro e w17 ⟨rfl, rfl⟩))
 go_ret
 exact ⟨rfl, F15.out.alloc _⟩
theorem new_len (l : List SP) : (runBy Cat.new l).length ≤ 1 + l.length := by have := run_len l Cat.new; simpa [Cat.new] using this
theorem made_ok {l : List SP} (h : Played l) : CatOk (runBy Cat.new l) := run_ok l _ new_ok (by decide) h.ok
theorem made_pos (l : List SP) : 0 < (runBy Cat.new l).length := run_pos (by decide)
theorem rdA {l : List AE} {i : Nat} {x : AE} (h : l[i]? = some x) : rd_T49 l (i : Int) = x := by
 unfold rd_T49; simp [List.getD_eq_getElem?_getD, h]
theorem entries_at {w : World} {A : Option Addr} {n k : Nat} {xs : List AE} {x : AE} (h : Kd.C k49 w A n xs) (hx : xs[k]? = some x) :
  ∃ b off A3 c3 A4 c4, A = some ⟨b, off, none⟩ ∧ w.cell? ⟨b, off + k * 9, none⟩ = some (.int .i64 x.f0) ∧ w.cell? ⟨b, off + k * 9 + 1, none⟩ = some (.string x.f1) ∧ w.cell? ⟨b, off + k * 9 + 2, none⟩ = some (.string x.f2) ∧ w.cell? ⟨b, off + k * 9 + 3, none⟩ = some (.slice A3 x.f3.length c3) ∧ w.cell? ⟨b, off + k * 9 + 4, none⟩ = some (.slice A4 x.f4.length c4) ∧
   w.cell? ⟨b, off + k * 9 + 5, none⟩ = some (.int .i64 x.f5) ∧ w.cell? ⟨b, off + k * 9 + 6, none⟩ = some (.int .i64 x.f6) ∧ w.cell? ⟨b, off + k * 9 + 7, none⟩ = some (.int .i64 x.f7) ∧ w.cell? ⟨b, off + k * 9 + 8, none⟩ = some (.int .i64 x.f8) := by
 have hk := (List.getElem?_eq_some_iff.1 hx).1
 have hn : xs.length = n := h.1
 obtain ⟨ad, A3, c3, A4, c4, e, h0, h1, h2, h3, h4, h5, h6, h7, h8, -⟩ := at_T49 h (k : Int) (by omega) (by omega)
 rw [rdA hx] at h0 h1 h2 h3 h4 h5 h6 h7 h8
 have hsp : ad.spot = none := by
  obtain ⟨ad', _, _, _, _, e', h0', _⟩ := at_T49 h 0 (by omega) (by omega)
  rw [e] at e'
  cases e'
  have hs := spot_none h0'
  simpa [Addr.add] using hs
 rw [addr_plain hsp] at e
 have ea : ad.add (((k : Int)).toNat * 9) = ⟨ad.block, ad.off + k * 9, none⟩ := by rw [addr_plain hsp, add_mk]; simp
 rw [ea] at h0 h1 h2 h3 h4 h5 h6 h7 h8
 exact ⟨ad.block, ad.off, A3, c3, A4, c4, e, h0, h1, h2, h3, h4, h5, h6, h7, h8⟩
section
variable {n : Nat} {ss : List ST} {s : ST}
theorem getBy_at (hs : ss[n]? = some s) {N : Int} (h : EInv N s.f2) {z : EN} (hz : z ∈ s.f2) : getBy ss (n : Int) z.f0.f0 = (z.f0, 0) := by
 have hn := (List.getElem?_eq_some_iff.1 hs).1
 have h1 := h.at_ hz
 have h2 := (List.getElem?_eq_some_iff.1 h1).1
 have h3 := h.pos hz
 unfold getBy
 rw [if_neg (by omega)]
 have e : ss.getD ((n : Int)).toNat z71 = s := by simp [List.getD_eq_getElem?_getD, hs]
 rw [e, if_neg (by omega), List.getD_eq_getElem?_getD, h1]
 rfl
theorem withinBy_at (hs : ss[n]? = some s) {N : Int} (h : EInv N s.f2) {z : EN} (hz : z ∈ s.f2) : withinBy ss (n : Int) z.f0.f0 = if z.f0.f2.toList = [] then (picked (isIn z.f0.f0) s.f2, 0) else ([], 8) := by
 have hn := (List.getElem?_eq_some_iff.1 hs).1
 unfold withinBy
 rw [getBy_at hs h hz]
 simp only [if_true]
 split
 ·unfold someBy
  rw [if_neg (by omega)]
  simp [List.getD_eq_getElem?_getD, hs]
 ·rfl
theorem in_mem {id : Int} {es : List EN} {x : AE} (h : x ∈ picked (isIn id) es) : ∃ u ∈ es, u.f0 = x ∧ u.f1 = id ∧ u.f0.f8 = 0 := by
 obtain ⟨u, hu, rfl⟩ := List.mem_map.1 h
 obtain ⟨h1, h2⟩ := List.mem_filter.1 hu
 unfold isIn at h2
 simp only [Bool.and_eq_true, beq_iff_eq] at h2
 exact ⟨u, h1, rfl, h2.1, h2.2⟩
end
end Go.Proofs.Ytcfgcmjnailndaa
