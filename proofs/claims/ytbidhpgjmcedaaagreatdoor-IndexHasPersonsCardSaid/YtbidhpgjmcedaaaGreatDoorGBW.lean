/- Texts of this claim, put together: SelP, IxP, ShiftP. -/
import Derived.Test.YtbidhpgjmcedaaaGreatDoorGBP
import Derived.Test.YtbidhpgjmcedaaaGreatDoorGAW
import Derived.Test.YtbidhpgjmcedaaaGreatDoorGBH
import Derived.Test.YtbidhpgjmcedaaaGreatDoorGAS
import Derived.Test.YtbidhpgjmcedaaaGreatDoorLaySortSh
import Derived.Test.YtbidhpgjmcedaaaGreatDoorGAU
import Derived.Test.YtbidhpgjmcedaaaGreatDoorGAK
import Derived.Test.YtbidhpgjmcedaaaGreatDoorGAL
namespace Go.Proofs.YtbidhpgjmcedaaaGreatDoor
set_option linter.unusedVariables false
def selL {α : Type} : (Nat → Bool) → List α → List α
 | _, [] => []
 | D, x :: l => if D 0 = true then x :: selL (fun i => D (i + 1)) l else selL (fun i => D (i + 1)) l
section
variable {α : Type}
theorem selL_sub (D : Nat → Bool) (l : List α) : (selL D l).Sublist l := by
 induction l generalizing D with
 | nil => exact .slnil
 | cons x l ih =>
  unfold selL
  split
  ·exact (ih _).cons_cons _
  ·exact (ih _).cons _
theorem selL_congr {D D' : Nat → Bool} {l : List α} (h : ∀ i, i < l.length → D i = D' i) : selL D l = selL D' l := by
 induction l generalizing D D' with
 | nil => rfl
 | cons x l ih =>
  unfold selL
  rw [h 0 (by simp), ih (D := fun i => D (i + 1)) (D' := fun i => D' (i + 1)) (fun i hi => h (i + 1) (by simp; omega))]
theorem selL_app (D : Nat → Bool) (l m : List α) : selL D (l ++ m) = selL D l ++ selL (fun i => D (l.length + i)) m := by
 induction l generalizing D with
 | nil => simp [selL]
 | cons x l ih =>
  rw [List.cons_append]
  unfold selL
  have e : (fun i => D (i + 1 + 0)) = fun i => D (i + 1) := rfl
  have e2 : (fun i => D ((x :: l).length + i)) = fun i => D (l.length + i + 1) := by
   funext i
   rw [List.length_cons, show l.length + 1 + i = l.length + i + 1 by omega]
  split
  ·rw [ih]
   cases m with
   | nil => simp [selL]
   | cons y m => rw [List.cons_append]; congr 1; congr 1; rw [e2]; rfl
  ·rw [ih]
   cases m with
   | nil => simp [selL]
   | cons y m => congr 1; rw [e2]; rfl
theorem selL_none (l : List α) : selL (fun _ => false) l = [] := by
 induction l with
 | nil => rfl
 | cons x l ih => unfold selL; simpa using ih
theorem selL_at (D : Nat → Bool) (l : List α) {i : Nat} (hi : i < l.length) : selL D l = selL D (l.take i) ++ (if D i = true then [l[i]] else []) ++ selL (fun k => D (i + 1 + k)) (l.drop (i + 1)) := by
 have e : l = l.take i ++ (l[i] :: l.drop (i + 1)) := by
  rw [List.getElem_cons_drop]
  exact (List.take_append_drop i l).symm
 have hl : (l.take i).length = i := by rw [List.length_take]; omega
 conv => lhs; rw [e]
 rw [selL_app, hl, List.append_assoc]
 congr 1
 show (if D (i + 0) = true then l[i] :: selL (fun k => D (i + (k + 1))) (l.drop (i + 1)) else selL (fun k => D (i + (k + 1))) (l.drop (i + 1))) = _
 rw [Nat.add_zero]
 have e3 : (fun k => D (i + (k + 1))) = fun k => D (i + 1 + k) := by funext k; rw [show i + (k + 1) = i + 1 + k by omega]
 rw [e3]
 split <;> rfl
end
def bare (t : TchD) : TchD := { t with ia := none, ic := 0, fa := none, fc := 0 }
section
variable {us vs ts : List TchD}
theorem hasId_bare (t : TchD) (x : IdD) : hasId (bare t).ids x = hasId t.ids x := rfl
theorem manyId_bare (ts : List TchD) (x : IdD) : manyId (ts.map bare) x = manyId ts x := by
 unfold manyId
 rw [List.filter_map, List.length_map]
 rfl
theorem JD_bare (r : RulD) (ts : List TchD) : JD r (ts.map bare) = JD r ts := by
 funext x
 unfold JD joinsD
 rw [manyId_bare]
theorem Share_bare (J : IdD → Bool) (ts : List TchD) (i j : Nat) : Share J (ts.map bare) i j ↔ Share J ts i j := by
 constructor
 ·rintro ⟨hi, hj, x, h1, h2, h3⟩
  rw [List.length_map] at hi hj
  rw [List.getElem_map, hasId_bare] at h2 h3
  exact ⟨hi, hj, x, h1, h2, h3⟩
 ·rintro ⟨hi, hj, x, h1, h2, h3⟩
  refine ⟨by rw [List.length_map]; exact hi, by rw [List.length_map]; exact hj, x, h1, ?_, ?_⟩
  ·rw [List.getElem_map]; exact h2
  ·rw [List.getElem_map]; exact h3
theorem tAt_bare (ts : List TchD) (q : Nat) : (tAt (ts.map bare) q).ids = (tAt ts q).ids ∧ (tAt (ts.map bare) q).no = (tAt ts q).no := by
 unfold tAt
 rw [List.getD_eq_getElem?_getD, List.getD_eq_getElem?_getD, List.getElem?_map]
 cases ts[q]? <;> exact ⟨rfl, rfl⟩
theorem tch1_bare (ok : ByteArray → Bool) (ts : List TchD) (i : Nat) : tch1 ok (ts.map bare) i = tch1 ok ts i := by
 have hp : prevNo (ts.map bare) i = prevNo ts i := by
  cases i with
  | zero => rfl
  | succ i =>
   show (match (ts.map bare)[i]? with | none => (0 : Int) | some t => t.no) = match ts[i]? with | none => (0 : Int) | some t => t.no
   rw [List.getElem?_map]
   cases ts[i]? <;> rfl
 unfold tch1
 rw [List.getElem?_map, hp]
 cases ts[i]? <;> rfl
theorem tchsE_bare (ok : ByteArray → Bool) (ts : List TchD) : tchsE ok (ts.map bare) = tchsE ok ts := by
 unfold tchsE
 rw [List.length_map, show tch1 ok (ts.map bare) = tch1 ok ts from funext (tch1_bare ok ts)]
theorem tchE_before {ok : ByteArray → Bool} {t : TchD} {b : Int} (h : tchE ok t 0 = 0) (hb : b < t.no) : tchE ok t b = 0 := by
 obtain ⟨hr, h0, _⟩ := tchE_zero h
 have k1 : ¬ t.no ≤ b := by omega
 have k2 : ¬ t.no ≤ 0 := by omega
 unfold tchE at h ⊢
 simp only [if_neg k2] at h
 simp only [if_neg k1]
 exact h
theorem tchE_alone {ok : ByteArray → Bool} {t : TchD} {b : Int} (h : tchE ok t b = 0) : tchE ok t 0 = 0 := by
 obtain ⟨hr, h0, _⟩ := tchE_zero h
 have := hr.no
 have k1 : ¬ t.no ≤ b := by omega
 have k2 : ¬ t.no ≤ 0 := by omega
 unfold tchE at h ⊢
 simp only [if_neg k1] at h
 simp only [if_neg k2]
 exact h
theorem tchs_iff {ok : ByteArray → Bool} {ts : List TchD} : tchsE ok ts = 0 ↔ ts.length ≤ 2000 ∧ (∀ t ∈ ts, tchE ok t 0 = 0) ∧ ts.Pairwise fun a b => a.no < b.no := by
 constructor
 ·intro h
  obtain ⟨h1, -, h3⟩ := tchs_right h
  refine ⟨h1, fun t ht => ?_, h3⟩
  obtain ⟨i, hi, rfl⟩ := List.getElem_of_mem ht
  unfold tchsE at h
  rw [if_neg (by omega)] at h
  have := fstErr_zero.1 h i hi
  rw [tch1_at hi] at this
  exact tchE_alone this
 ·rintro ⟨h1, h2, h3⟩
  unfold tchsE
  rw [if_neg (by omega)]
  refine fstErr_zero.2 fun i hi => ?_
  rw [tch1_at hi]
  refine tchE_before (h2 _ (List.getElem_mem hi)) ?_
  cases i with
  | zero =>
   have := (tchE_zero (h2 _ (List.getElem_mem hi))).1.no
   show (0 : Int) < _
   omega
  | succ i =>
   rw [prevNo_succ (by omega)]
   exact List.pairwise_iff_getElem.1 h3 i (i + 1) (by omega) hi (by omega)
theorem tchs_sub {ok : ByteArray → Bool} (h : tchsE ok ts = 0) (hs : us.Sublist ts) : tchsE ok us = 0 := by
 obtain ⟨h1, h2, h3⟩ := tchs_iff.1 h
 exact tchs_iff.2 ⟨Nat.le_trans hs.length_le h1, fun t ht => h2 t (hs.subset ht), h3.sublist hs⟩
end
def sayP (p : PerD) : IdD × List Int × List IdD := (p.key, p.nos, p.ids)
theorem rising_uniq {l a b : List IdD} (ha : IdsOk l a) (hb : IdsOk l b) : a = b := by
 have key : ∀ a b : List IdD, (a.Pairwise fun x y => idCmp x y < 0) → (b.Pairwise fun x y => idCmp x y < 0) → (∀ x, x ∈ a ↔ x ∈ b) → a = b := by
  intro a
  induction a with
  | nil =>
   intro b _ _ h
   cases b with
   | nil => rfl
   | cons y b => exact absurd ((h y).2 (by simp)) (by simp)
  | cons x a ih =>
   intro b h1 h2 h
   cases b with
   | nil => exact absurd ((h x).1 (by simp)) (by simp)
   | cons y b =>
    obtain ⟨p1, q1⟩ := List.pairwise_cons.1 h1
    obtain ⟨p2, q2⟩ := List.pairwise_cons.1 h2
    have anti : ∀ u v : IdD, idCmp u v < 0 → idCmp v u < 0 → False := fun u v e1 e2 => by
     have := idCmp_ok.swap u v
     omega
    have hxy : x = y := by
     rcases List.mem_cons.1 ((h x).1 (by simp)) with e | e
     ·exact e
     ·rcases List.mem_cons.1 ((h y).2 (by simp)) with e' | e'
      ·exact e'.symm
      ·exact absurd (p2 x e) (fun c => anti _ _ c (p1 y e'))
    subst hxy
    congr 1
    refine ih b q1 q2 fun z => ?_
    constructor
    ·intro hz
     rcases List.mem_cons.1 ((h z).1 (List.mem_cons_of_mem _ hz)) with e | e
     ·subst e; exact absurd (p1 z hz) (fun c => anti _ _ c c)
     ·exact e
    ·intro hz
     rcases List.mem_cons.1 ((h z).2 (List.mem_cons_of_mem _ hz)) with e | e
     ·subst e; exact absurd (p2 z hz) (fun c => anti _ _ c c)
     ·exact e
 exact key a b ha.1 hb.1 fun x => (ha.2 x).trans (hb.2 x).symm
theorem pers_same {J : IdD → Bool} {us vs : List TchD} {rr rq : List Nat} {ps qs : List PerD} (e : us.map bare = vs.map bare) (hu : Uf (Share J us) rr) (hp : PersQ J us (repN rr) ps) (hv : Uf (Share J vs) rq) (hq : PersQ J vs (repN rq) qs) : ps.map sayP = qs.map sayP := by
 have hlen : us.length = vs.length := by have := congrArg List.length e; rwa [List.length_map, List.length_map] at this
 have hS : ∀ i j, Share J us i j ↔ Share J vs i j := fun i j => (Share_bare J us i j).symm.trans (by rw [e]; exact Share_bare J vs i j)
 have hr : repN rr = repN rq := funext fun i => Uf.rep_eq hu (hv.iff_ fun i j => (hS i j).symm) i
 have hT : ∀ q, (tAt us q).ids = (tAt vs q).ids ∧ (tAt us q).no = (tAt vs q).no := fun q => by
  have h1 := tAt_bare us q
  have h2 := tAt_bare vs q
  rw [e] at h1
  exact ⟨h1.1.symm.trans h2.1, h1.2.symm.trans h2.2⟩
 rw [hr] at hp
 apply List.ext_getElem
 ·rw [List.length_map, List.length_map, hp.len, hq.len, hlen]
 intro k h1 h2
 rw [List.getElem_map, List.getElem_map]
 rw [List.length_map] at h1 h2
 have hk1 : k < (rts (repN rq) us.length).length := by rw [← hp.len]; exact h1
 have hk2 : k < (rts (repN rq) vs.length).length := by rw [← hq.len]; exact h2
 have e1 := hp.key k hk1 h1
 have e2 := hq.key k hk2 h2
 have e3 := hp.nos k hk1 h1
 have e4 := hq.nos k hk2 h2
 have e5 := hp.ids k hk1 h1
 have e6 := hq.ids k hk2 h2
 simp only [hlen] at e1 e3 e5
 unfold sayP
 have k1 : ps[k].key = qs[k].key := by rw [e1, e2]; unfold keyF; rw [(hT _).1]
 have k2 : ps[k].nos = qs[k].nos := by rw [e3, e4]; exact List.map_congr_left fun q _ => (hT q).2
 have k3 : ps[k].ids = qs[k].ids := by
  have hf : ((cls (repN rq) vs.length (rts (repN rq) vs.length)[k]).flatMap fun q => (tAt us q).ids) = (cls (repN rq) vs.length (rts (repN rq) vs.length)[k]).flatMap fun q => (tAt vs q).ids := by
   rw [show (fun q => (tAt us q).ids) = fun q => (tAt vs q).ids from funext fun q => (hT q).1]
  rw [hf] at e5
  exact rising_uniq e5 e6
 rw [k1, k2, k3]
def updD (D : Nat → Bool) (i : Nat) (b : Bool) : Nat → Bool := fun k => if k = i then b else D k
theorem sel_upd (D : Nat → Bool) (b : Bool) {ts : List TchD} {i0 : Nat} (h0 : i0 < ts.length) : selL (updD D i0 b) ts = selL D (ts.take i0) ++ (if b = true then [ts[i0]] else []) ++ selL (fun k => D (i0 + 1 + k)) (ts.drop (i0 + 1)) := by
 rw [selL_at (updD D i0 b) ts h0]
 have e1 : selL (updD D i0 b) (ts.take i0) = selL D (ts.take i0) := selL_congr fun k hk => by
  rw [List.length_take] at hk
  exact if_neg (by omega)
 have e2 : (fun k => updD D i0 b (i0 + 1 + k)) = fun k => D (i0 + 1 + k) := funext fun k => if_neg (by omega)
 have e3 : updD D i0 b i0 = b := if_pos rfl
 rw [e1, e2, e3]
section
variable {us ts : List TchD} {D : Nat → Bool}
theorem bare_at {l m : List TchD} (e : l.map bare = m.map bare) {q : Nat} (h : q < l.length) (h' : q < m.length) : bare l[q] = bare m[q] := by
 have h1 := congrArg (fun x => x[q]?) e
 simp only [List.getElem?_map, List.getElem?_eq_getElem h, List.getElem?_eq_getElem h', Option.map_some] at h1
 exact Option.some.inj h1
theorem bare_no {a b : TchD} (h : bare a = bare b) : a.no = b.no := (congrArg TchD.no h : (bare a).no = (bare b).no)
theorem bare_len {l m : List TchD} (e : l.map bare = m.map bare) : l.length = m.length := by have := congrArg List.length e; rwa [List.length_map, List.length_map] at this
theorem low_no (hno : ts.Pairwise fun a b => a.no < b.no) {i0 : Nat} (h0 : i0 < ts.length) {u : TchD} (hu : u ∈ ts.take i0) : u.no < ts[i0].no := by
 obtain ⟨p, hp, rfl⟩ := List.getElem_of_mem hu
 rw [List.length_take] at hp
 rw [List.getElem_take]
 exact List.pairwise_iff_getElem.1 hno p i0 (by omega) h0 (by omega)
theorem high_no (hno : ts.Pairwise fun a b => a.no < b.no) {i0 : Nat} (h0 : i0 < ts.length) {u : TchD} (hu : u ∈ ts.drop (i0 + 1)) : ts[i0].no < u.no := by
 obtain ⟨p, hp, rfl⟩ := List.getElem_of_mem hu
 rw [List.length_drop] at hp
 rw [List.getElem_drop]
 exact List.pairwise_iff_getElem.1 hno i0 _ h0 (by omega) (by omega)
theorem sel_add (e : us.map bare = (selL D ts).map bare) (hno : ts.Pairwise fun a b => a.no < b.no) {i0 : Nat} (h0 : i0 < ts.length) (hD : D i0 = false) :
  ∃ i, i ≤ us.length ∧ (∀ q (h : q < us.length), q < i → us[q].no < ts[i0].no) ∧ (∀ q (h : q < us.length), i ≤ q → ts[i0].no < us[q].no) ∧ (us.take i ++ ts[i0] :: us.drop i).map bare = (selL (updD D i0 true) ts).map bare := by
 have es : selL D ts = selL D (ts.take i0) ++ selL (fun k => D (i0 + 1 + k)) (ts.drop (i0 + 1)) := by
  rw [selL_at D ts h0, hD]; simp
 have hsub1 := selL_sub D (ts.take i0)
 have hsub2 := selL_sub (fun k => D (i0 + 1 + k)) (ts.drop (i0 + 1))
 have hU := sel_upd D true h0
 generalize selL D (ts.take i0) = L1 at *
 generalize selL (fun k => D (i0 + 1 + k)) (ts.drop (i0 + 1)) = L2 at *
 rw [es] at e
 have hl := bare_len e
 rw [List.length_append] at hl
 refine ⟨L1.length, by omega, fun q h hq => ?_, fun q h hq => ?_, ?_⟩
 ·have hb := bare_at e h (by rw [List.length_append]; omega)
  rw [List.getElem_append_left hq] at hb
  rw [bare_no hb]
  exact low_no hno h0 (hsub1.subset (List.getElem_mem hq))
 ·have hb := bare_at e h (by rw [List.length_append]; omega)
  rw [List.getElem_append_right hq] at hb
  rw [bare_no hb]
  exact high_no hno h0 (hsub2.subset (List.getElem_mem _))
 ·rw [hU, if_pos rfl]
  have t1 : (us.take L1.length).map bare = L1.map bare := by
   rw [List.map_take, e, List.map_append, List.take_left' (by rw [List.length_map])]
  have t2 : (us.drop L1.length).map bare = L2.map bare := by
   rw [List.map_drop, e, List.map_append, List.drop_left' (by rw [List.length_map])]
  simp only [List.map_append, List.map_cons, t1, t2, List.append_assoc, List.cons_append, List.nil_append]
theorem sel_rem (e : us.map bare = (selL D ts).map bare) {i0 : Nat} (h0 : i0 < ts.length) (hD : D i0 = true) :
  ∃ (i : Nat) (h : i < us.length), us[i].no = ts[i0].no ∧ (us.take i ++ us.drop (i + 1)).map bare = (selL (updD D i0 false) ts).map bare := by
 have es : selL D ts = selL D (ts.take i0) ++ ts[i0] :: selL (fun k => D (i0 + 1 + k)) (ts.drop (i0 + 1)) := by
  rw [selL_at D ts h0, hD]; simp
 have hU := sel_upd D false h0
 generalize selL D (ts.take i0) = L1 at *
 generalize selL (fun k => D (i0 + 1 + k)) (ts.drop (i0 + 1)) = L2 at *
 rw [es] at e
 have hl := bare_len e
 rw [List.length_append, List.length_cons] at hl
 refine ⟨L1.length, by omega, ?_, ?_⟩
 ·have hb := bare_at e (q := L1.length) (by omega) (by rw [List.length_append, List.length_cons]; omega)
  rw [List.getElem_append_right (Nat.le_refl _)] at hb
  simp only [Nat.sub_self, List.getElem_cons_zero] at hb
  exact bare_no hb
 ·rw [hU]
  have t1 : (us.take L1.length).map bare = L1.map bare := by
   rw [List.map_take, e, List.map_append, List.take_left' (by rw [List.length_map])]
  have t2 : (us.drop (L1.length + 1)).map bare = L2.map bare := by
   rw [List.map_drop, e, List.map_append, List.map_cons]
   rw [show L1.length + 1 = (L1.map bare).length + 1 by rw [List.length_map], List.drop_append]
   simp
  simp [List.map_append, t1, t2]
theorem sel_mem (e : us.map bare = (selL D ts).map bare) {u : TchD} (hu : u ∈ us) : ∃ t ∈ ts, bare u = bare t := by
 have h1 : bare u ∈ (selL D ts).map bare := by rw [← e]; exact List.mem_map.2 ⟨u, hu, rfl⟩
 obtain ⟨t, ht, h2⟩ := List.mem_map.1 h1
 exact ⟨t, (selL_sub D ts).subset ht, h2.symm⟩
theorem sel_rising (e : us.map bare = (selL D ts).map bare) (hno : ts.Pairwise fun a b => a.no < b.no) : us.Pairwise fun a b => a.no < b.no := by
 have h1 := hno.sublist (selL_sub D ts)
 rw [List.pairwise_iff_getElem] at h1 ⊢
 intro i j hi hj hij
 have hl := bare_len e
 rw [bare_no (bare_at e hi (by omega)), bare_no (bare_at e hj (by omega))]
 exact h1 i j (by omega) (by omega) hij
theorem right_bare {u t : TchD} (h : bare u = bare t) (hr : RightT t) : RightT u := by
 have e1 : u.no = t.no := bare_no h
 have e2 : u.at_ = t.at_ := (congrArg TchD.at_ h : (bare u).at_ = (bare t).at_)
 have e3 : u.source = t.source := (congrArg TchD.source h : (bare u).source = (bare t).source)
 have e4 : u.ids = t.ids := (congrArg TchD.ids h : (bare u).ids = (bare t).ids)
 exact ⟨by rw [e1]; exact hr.no, by rw [e2]; exact hr.at_, by rw [e3]; exact hr.src, by rw [e4]; exact hr.len, by rw [e4]; exact hr.ids, by rw [e4]; exact hr.idE⟩
theorem sel_rightTs (e : us.map bare = (selL D ts).map bare) (h : tchsE okT ts = 0) : RightTs us := by
 have h1 : tchsE okT us = 0 := by
  rw [← tchsE_bare, e, tchsE_bare]
  exact tchs_sub h (selL_sub D ts)
 unfold RightTs
 unfold tchsE at h1
 by_cases g : 2000 < us.length
 ·rw [if_pos g] at h1; cases h1
 ·rw [if_neg g] at h1; exact h1
end
open Go.RowKit
structure ShD where
 no : Int
 fr : IdD
 tt : IdD
def fSh (d : ShD) : Nat → Value
 | 0 => .int .i64 d.no
 | 1 => .int .i64 d.fr.kind
 | 2 => .string d.fr.text
 | 3 => .int .i64 d.tt.kind
 | _ => .string d.tt.text
def shV (d : ShD) : Value := .agg #[.int .i64 d.no, .int .i64 d.fr.kind, .string d.fr.text, .int .i64 d.tt.kind, .string d.tt.text]
instance : Inhabited ShD := ⟨⟨0, zeroId, zeroId⟩⟩
theorem fSh_one (d : ShD) (m : Nat) : (fSh d m).oneCell' = true := by
 match m with
 | 0 => rfl
 | 1 => rfl
 | 2 => rfl
 | 3 => rfl
 | m + 4 => rfl
def shCmp (a b : ShD) : Int := cmpI a.no b.no
theorem shCmp_ok : CmpOk shCmp := by
 refine ⟨fun a b => ?_, fun a b c h1 h2 => ?_⟩
 ·unfold shCmp cmpI
  split <;> split <;> omega
 ·unfold shCmp cmpI at *
  split at h1 <;> split at h2 <;> split <;> omega
theorem sortFunc_Sh (cf : ShD → ShD → Int) (hc : CmpOk cf) (g : Nat) (cb : Array Value) (hcall : ∀ args w, (callFunc g args).run Tryz.prog w = .ok (.enter g args) w)
  (hcmp : ∀ (W : World) (a b : ShD), Calls Tryz.prog g (#[shV a, shV b] ++ cb) W fun e W' => e = .returned (.int .i64 (cf a b)) ∧ Gro W W')
  (B : Nat) (v : Value) (ds : List ShD) (w : World) (hO : Orow w B 293 5 fSh v ds) (hl : ds.length ≤ 1000000) :
  Calls Tryz.prog 253 #[v, .func (.func g) #[] cb] w fun e w' =>
   e = .returned (.tuple #[]) ∧ ∃ ds' : List ShD, ds'.Perm ds ∧ (ds'.Pairwise fun a b => cf a b ≤ 0) ∧ Orow w' B 293 5 fSh v ds' ∧ w.grownBy w' v.ownBlock := by
 by_cases hne : ds = []
 ·subst hne
  obtain ⟨A, cap, hv, -⟩ := hO.slice
  subst hv
  refine (AnyF.slices_SortFunc_none Tryz.sortSh A cap (.func (.func g) #[] cb) w).mono ?_
  rintro e w' ⟨rfl, rfl⟩
  exact ⟨rfl, [], List.Perm.refl _, List.Pairwise.nil, hO, ⟨rfl, rfl, rfl, Nat.le_refl _, fun k hk _ => rfl⟩⟩
 ·obtain ⟨q, cap, rest, hv, hle, hB, hq, hm, hk, hr⟩ := hO.form hne
  subst hv
  refine (AnyQ.slices_SortFunc Tryz.sortSh 5 (fun w => by kernel_rfl) (fun w => by kernel_rfl) (encK 5 fSh) (fun x => encK_len x) ?_ cf (swo_of hc) g cb q 0 cap ds.toArray w hcall ?_ (holdsK_of_blk hk) hq (by simp; omega)).mono ?_
  ·intro x u hu
   unfold encK at hu
   obtain ⟨m, hm, rfl⟩ := List.mem_map.1 hu
   exact fSh_one x m
  ·intro m os dk hs x y
   exact hcmp _ x y
  ·rintro e w' ⟨rfl, d', n, os, hp, hs, rfl⟩
   have hp2 := permIn_list hp
   have hs2 := sortedIn_list (d := d') (by rw [hp.1]; exact hs)
   have hl2 : d'.toList.length = ds.length := by simpa using hp2.length_eq
   refine ⟨rfl, d'.toList, by simpa using hp2, hs2.imp (fun {a b} h => ?_), ?_, grown_sortWorldK _ _ _ _ _⟩
   ·unfold ltOf at h
    rw [decide_eq_false_iff_not] at h
    have := hc.swap a b
    omega
   ·have := kblk_sortWorldK (ds' := d'.toList) hk hl2 n os
    have h2 := Orow.of_blk this hB hm (by rw [hl2]; exact hle) (by rw [hl2]; exact hr)
    rw [hl2] at h2
    simpa using h2
theorem differ1_any (a b : ShD) (w : World) : Calls Tryz.prog 254 #[shV a, shV b] w fun e w' => e = .returned (.int .i64 (shCmp a b)) ∧ Gro w w' := by
 rw [show shV a = .agg #[.int .i64 a.no, .int .i64 a.fr.kind, .string a.fr.text, .int .i64 a.tt.kind, .string a.tt.text] from rfl, show shV b = .agg #[.int .i64 b.no, .int .i64 b.fr.kind, .string b.fr.text, .int .i64 b.tt.kind, .string b.tt.text] from rfl]
 have hb := Lib.hid ((Gro.alloc w (.cells #[.int .i64 a.no, .int .i64 a.fr.kind, .string a.fr.text, .int .i64 a.tt.kind, .string a.tt.text] 293)).trans (Gro.alloc _ (.cells #[.int .i64 b.no, .int .i64 b.fr.kind, .string b.fr.text, .int .i64 b.tt.kind, .string b.tt.text] 293)))
 have h1 : ((w.alloc (.cells #[.int .i64 a.no, .int .i64 a.fr.kind, .string a.fr.text, .int .i64 a.tt.kind, .string a.tt.text] 293)).alloc (.cells #[.int .i64 b.no, .int .i64 b.fr.kind, .string b.fr.text, .int .i64 b.tt.kind, .string b.tt.text] 293)).heap[w.heap.size]? = some (.cells #[.int .i64 a.no, .int .i64 a.fr.kind, .string a.fr.text, .int .i64 a.tt.kind, .string a.tt.text] 293 (0, 0)) := (heap_lt (by simp)).trans (heap_alloc_new w _)
 have h2 : ((w.alloc (.cells #[.int .i64 a.no, .int .i64 a.fr.kind, .string a.fr.text, .int .i64 a.tt.kind, .string a.tt.text] 293)).alloc (.cells #[.int .i64 b.no, .int .i64 b.fr.kind, .string b.fr.text, .int .i64 b.tt.kind, .string b.tt.text] 293)).heap[w.heap.size + 1]? = some (.cells #[.int .i64 b.no, .int .i64 b.fr.kind, .string b.fr.text, .int .i64 b.tt.kind, .string b.tt.text] 293 (0, 0)) := heap_at (by simp)
 have x0 := cell_h h1 0 (v := .int .i64 a.no) rfl
 have y0 := cell_h h2 0 (v := .int .i64 b.no) rfl
 clear h1 h2
 go_enter Tryz.func254, Tryz.ntmps254
 go_upto_region 1 with (fail)
 generalize (w.alloc _).alloc _ = W2 at *
 go_wp2_with fail
 refine (cmpInt_any a.no b.no W2).mono ?_
 rintro e W3 ⟨rfl, rfl⟩
 clear x0 y0
 go_wp2_with fail
 go_ret
 exact ⟨rfl, hb.out⟩
structure ShS (W0 : World) (b n : Nat) (m : Lit → Option Value) (wr : World) : Prop where
 bel : Below W0.heap.size W0 wr
 mp : Mp Tryz.prog 3 wr b n m
 ge : W0.heap.size ≤ b
 vals : ∀ l v, m l = some v → ∃ d : ShD, v = shV d
 keys : ∀ l, (m l).isSome = true → ∃ z : Int, 0 ≤ z ∧ z ≤ 1000000 ∧ l = .int .i64 z
theorem ShS.put {W0 wr w' : World} {b n : Nat} {m : Lit → Option Value} (h : ShS W0 b n m wr) {z : Int} (h0 : 0 ≤ z) (h1 : z ≤ 1000000) (d : ShD) (hm : Mp Tryz.prog 3 w' b (n + 1) (mpSet m (.int .i64 z) (shV d))) (hg : wr.grownBy w' (some b)) : ShS W0 b (n + 1) (mpSet m (.int .i64 z) (shV d)) w' := by
 refine ⟨⟨hg.os.trans h.bel.os, hg.tape.trans h.bel.tape, hg.output.trans h.bel.output, Nat.le_trans h.bel.size hg.size, fun k hk => (hg.block k (Nat.lt_of_lt_of_le hk h.bel.size) (fun e => by injection e with e; have := h.ge; omega)).trans (h.bel.block k hk)⟩, hm, h.ge, fun l v hv => ?_, fun l hl => ?_⟩
 ·unfold mpSet at hv
  split at hv
  ·exact ⟨d, (Option.some.inj hv).symm⟩
  ·exact h.vals l v hv
 ·unfold mpSet at hl
  split at hl
  ·next e => exact ⟨z, h0, h1, WideAt.sameKey_eq e⟩
  ·exact h.keys l hl
theorem ShS.call {W0 wr w' : World} {b n : Nat} {m : Lit → Option Value} (h : ShS W0 b n m wr) (hb : Below wr.heap.size wr w') : ShS W0 b n m w' := ⟨h.bel.trans (hb.mono h.bel.size), h.mp.below hb, h.ge, h.vals, h.keys⟩
end Go.Proofs.YtbidhpgjmcedaaaGreatDoor
