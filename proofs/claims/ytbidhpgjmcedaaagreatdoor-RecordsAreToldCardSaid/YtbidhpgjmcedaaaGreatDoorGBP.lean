/- Texts of this claim, put together: PartP, PartC, OnlyJoinW. -/
import Derived.Test.YtbidhpgjmcedaaaGreatDoorGBL
import Derived.Test.YtbidhpgjmcedaaaGreatDoorGBH
import Derived.Test.YtbidhpgjmcedaaaGreatDoorGBJ
namespace Go.Proofs.YtbidhpgjmcedaaaGreatDoor
set_option linter.unusedVariables false
open Go.RowKit
theorem idsO_of {ids : List IdD} (h : RisingI ids) (hz : ∀ x ∈ ids,idErr x.kind x.text = 0) : idsO ids = 0:=by
 refine fstErr_zero.2 fun i hi => ?_
 rw [idO1_at hi,if_neg (by rw [hz _ (List.getElem_mem hi)]; simp),if_neg]
 rintro ⟨h0,h1⟩
 have e : ids.getD (i - 1) ids[i] = ids[i - 1]:=by rw [List.getD_eq_getElem?_getD,List.getElem?_eq_getElem (by omega),Option.getD_some]
 rw [e] at h1
 have h2:=List.pairwise_iff_getElem.1 h (i - 1) i (by omega) hi (by omega)
 have h3:=idCmp_ok.swap ids[i - 1] ids[i]
 omega
def weakR (r : RulD) (wa : Option Addr) (wc : Nat) (ws : List IdD) : RulD:={ r with wa:=wa,wc:=wc,weaks:=ws }
theorem rul_weak {r : RulD} {wa : Option Addr} {wc : Nat} {ws : List IdD} (h : rulE r = 0) (h1 : RisingI ws) (h2 : ∀ x ∈ ws,idErr x.kind x.text = 0) (h3 : ws.length ≤ 200) : rulE (weakR r wa wc ws) = 0:=by
 have h4:=idsO_of h1 h2
 unfold rulE at h ⊢
 show (if kdsE r.kinds ≠ 0 then kdsE r.kinds else if ¬ (2 ≤ r.most ∧ r.most ≤ 2000) then 1 else if 200 < ws.length then 2 else if idsO ws ≠ 0 then idsO ws else sursE r.surs) = 0
 by_cases c1 : kdsE r.kinds ≠ 0
 ·rw [if_pos c1] at h; exact absurd h c1
 ·rw [if_neg c1] at h ⊢
  by_cases c2 : ¬ (2 ≤ r.most ∧ r.most ≤ 2000)
  ·rw [if_pos c2] at h; cases h
  ·rw [if_neg c2] at h ⊢
   rw [if_neg (by omega),if_neg (by rw [h4]; simp)]
   by_cases c3 : 200 < r.weaks.length
   ·rw [if_pos c3] at h; cases h
   ·rw [if_neg c3] at h
    by_cases c4 : idsO r.weaks ≠ 0
    ·rw [if_pos c4] at h; exact absurd h c4
    ·rw [if_neg c4] at h; exact h
theorem keyF_mem {J : IdD → Bool} {ids : List IdD} (h : ids ≠ []) : keyF J ids ∈ ids:=by
 unfold keyF
 cases e : ids.find? J with
 | some x => exact List.mem_of_find?_eq_some e
 | none =>
  cases ids with
  | nil => exact absurd rfl h
  | cons a l => simp
theorem KeyAt.uniq {J : IdD → Bool} {ts : List TchD} {rep : Nat → Nat} {key : IdD} {k k' : Nat} (h : KeyAt J ts rep key k) (h' : KeyAt J ts rep key k') : k = k':=by
 rcases Nat.lt_trichotomy k k' with c | c | c
 ·exact absurd (h.eq h.lt) (h'.ne k h.lt c)
 ·exact c
 ·exact absurd (h'.eq h'.lt) (h.ne k' h'.lt c)
section
variable {J : IdD → Bool} {ts : List TchD} {rr : List Nat} {ps : List PerD}
theorem pers_sum (hu : Uf (Share J ts) rr) (hq : PersQ J ts (repN rr) ps) : (ps.map fun p => p.nos.length).sum = ts.length:=by
 have h:=cls_sum (fun i => repN_le rr i) (fun i => repN_idem hu.dn i) ts.length
 rw [← h]
 congr 1
 apply List.ext_getElem
 ·rw [List.length_map,List.length_map,hq.len]
 ·intro k h1 h2
  rw [List.length_map] at h1 h2
  rw [List.getElem_map,List.getElem_map,hq.nos k h2 h1,List.length_map]
theorem key_at (hq : PersQ J ts (repN rr) ps) {k : Nat} (hk : k < ps.length) (h : ∀ j (hj : j < ps.length),j < k → ps[j].key ≠ ps[k].key) : KeyAt J ts (repN rr) ps[k].key k:=by
 have hkr : k < (rts (repN rr) ts.length).length:=by rw [← hq.len]; exact hk
 refine ⟨hkr,fun h1 => (hq.key k h1 hk).symm,fun j h1 hjk => ?_⟩
 have hj : j < ps.length:=by rw [hq.len]; exact h1
 rw [← hq.key j h1 hj]
 exact h j hj hjk
theorem pers_ids_len (hq : PersQ J ts (repN rr) ps) (hil : ∀ t ∈ ts,t.ids.length ≤ 1000) (hl : ts.length ≤ 100) {p : PerD} (hp : p ∈ ps) : p.ids.length ≤ 1000000:=by
 obtain ⟨k,hk,rfl⟩:=List.getElem_of_mem hp
 have hkr : k < (rts (repN rr) ts.length).length:=by rw [← hq.len]; exact hk
 have h1:=idsOk_len (hq.ids k hkr hk)
 have h2:=flatMap_le (m:=1000) (fun q => (tAt ts q).ids) (cls (repN rr) ts.length (rts (repN rr) ts.length)[k]) (fun q hq2 => hil _ (tAt_mem (cls_lt hq2)))
 have h3:=cls_le (repN rr) ts.length (rts (repN rr) ts.length)[k]
 have h4 : (cls (repN rr) ts.length (rts (repN rr) ts.length)[k]).length * 1000 ≤ 100 * 1000:=Nat.mul_le_mul_right _ (by omega)
 omega
theorem key_mem (hq : PersQ J ts (repN rr) ps) (h0 : ∀ t ∈ ts,t.ids ≠ []) {i : Nat} (hi : i < ps.length) : ∃ t ∈ ts,ps[i].key ∈ t.ids:=by
 have hkr : i < (rts (repN rr) ts.length).length:=by rw [← hq.len]; exact hi
 have hm:=mem_rts.1 (List.getElem_mem hkr)
 refine ⟨_,tAt_mem hm.1,?_⟩
 rw [hq.key i hkr hi]
 exact keyF_mem (h0 _ (tAt_mem hm.1))
end
open Go.RowKit
structure WeakS (W9 : World) (kb : Nat) (r : RulD) (B : Nat) (wa : Option Addr) (wc : Nat) (ws : List IdD) (wr : World) : Prop where
 row : Orow wr B 55 2 fId (.slice wa ws.length wc) ws
 obj : wr.heap[kb]? = some (.cells #[.slice r.ka r.kinds.length r.kc,.int .i64 r.most,.slice wa ws.length wc,.slice r.sa r.surs.length r.sc] 44 (0,0))
 bel : Below W9.heap.size W9 wr
 kl : kb < B
 kg : W9.heap.size ≤ kb
section
variable {W9 wr W' : World} {kb B : Nat} {r : RulD} {wa : Option Addr} {wc : Nat} {ws ws' : List IdD}
theorem WeakS.kept (h : WeakS W9 kb r B wa wc ws wr) (g1 : wr.grownBy W' (Value.slice wa ws.length wc).ownBlock) :
  W'.heap[kb]? = some (.cells #[.slice r.ka r.kinds.length r.kc,.int .i64 r.most,.slice wa ws.length wc,.slice r.sa r.surs.length r.sc] 44 (0,0)) ∧ Below W9.heap.size W9 W':=by
 have hkl:=h.kl
 have hkg:=h.kg
 refine ⟨(g1.block kb (lt_of_heap h.obj) (fun e => by have:=(h.row.lt e.symm).1; omega)).trans h.obj,⟨g1.os.trans h.bel.os,g1.tape.trans h.bel.tape,g1.output.trans h.bel.output,Nat.le_trans h.bel.size g1.size,fun k hk => (g1.block k (Nat.lt_of_lt_of_le hk h.bel.size) (fun e => by have:=(h.row.lt e.symm).1; omega)).trans (h.bel.block k hk)⟩⟩
theorem WeakS.sorted (h : WeakS W9 kb r B wa wc ws wr) (hl : ws'.length = ws.length) (o : Orow W' B 55 2 fId (.slice wa ws.length wc) ws') (g1 : wr.grownBy W' (Value.slice wa ws.length wc).ownBlock) : WeakS W9 kb r B wa wc ws' W':=by
 obtain ⟨h1,h2⟩:=h.kept g1
 exact ⟨by rw [hl]; exact o,by rw [hl]; exact h1,h2,h.kl,h.kg⟩
theorem WeakS.told (h : WeakS W9 kb r B wa wc ws wr) {H : Frz} {A : Option Addr} {ts : List TchD} (ht : Told H A r ts) (hH : H.In wr) (h1 : RisingI ws) (h2 : ∀ x ∈ ws,idErr x.kind x.text = 0) (h3 : ws.length ≤ 200) : Told (wholeH wr) A (weakR r wa wc ws) ts:=by
 have hle : H.Le (wholeH wr):=fun b o e => hH b o e
 obtain ⟨A',c',e,_,hR⟩:=h.row.memR
 injection e with e1 _ e2
 subst e1
 exact ⟨ht.row.le hle,fun t htm => (ht.inn t htm).le hle,⟨ht.rul.k.le hle,hR,ht.rul.u.le hle,fun x hx => (ht.rul.s x hx).le hle⟩,⟨ht.sz.k,by show ws.length ≤ _; omega,fun x hx => by have:=(fit_of (h2 x hx)).2; omega,ht.sz.u,ht.sz.us⟩,rul_weak ht.rz h1 h2 h3,ht.right,ht.len⟩
end
open Go.RowKit
theorem joinsMake : JoinsMake:=fun _ _ _ _ _ h hK hP hN => h.joinRules hK hP hN
end Go.Proofs.YtbidhpgjmcedaaaGreatDoor
