/- Texts of this claim, put together: MemC, AppRowX, MembJ, IdsOk. -/
import Derived.Test.YtcncifmanodabaaGreatDoorGBB
import Derived.Test.YtcncifmanodabaaGreatDoorGAV
import Derived.Test.YtcncifmanodabaaGreatDoorGAW
import Derived.Test.YtcncifmanodabaaGreatDoorGAY
import Derived.Test.YtcncifmanodabaaGreatDoorGAS
import Derived.Test.YtcncifmanodabaaGreatDoorGAE
namespace Go.Proofs.YtcncifmanodabaaGreatDoor
set_option linter.unusedVariables false
open Go.RowKit
def rts (rep:Nat → Nat) (i:Nat):List Nat:=(List.range i).filter fun q => rep q == q
def cls (rep:Nat → Nat) (i r:Nat):List Nat:=(List.range i).filter fun q => rep q == r
theorem rts_succ (rep:Nat → Nat) (i:Nat):rts rep (i + 1) = rts rep i ++ if rep i = i then [i] else []:=by
 unfold rts
 rw [List.range_succ,List.filter_append]
 congr 1
 by_cases h:rep i = i
 ·rw [if_pos h,List.filter_cons_of_pos (by simpa using h)];rfl
 ·rw [if_neg h,List.filter_cons_of_neg (by simpa using h)];rfl
theorem cls_succ (rep:Nat → Nat) (i r:Nat):cls rep (i + 1) r = cls rep i r ++ if rep i = r then [i] else []:=by
 unfold cls
 rw [List.range_succ,List.filter_append]
 congr 1
 by_cases h:rep i = r
 ·rw [if_pos h,List.filter_cons_of_pos (by simpa using h)];rfl
 ·rw [if_neg h,List.filter_cons_of_neg (by simpa using h)];rfl
theorem mem_rts {rep:Nat → Nat} {i q:Nat}:q ∈ rts rep i ↔ q < i ∧ rep q = q:=by
 unfold rts
 simp
theorem rts_nodup (rep:Nat → Nat) (i:Nat):(rts rep i).Nodup:=List.Pairwise.filter _ List.nodup_range
theorem rts_le (rep:Nat → Nat) (i:Nat):(rts rep i).length ≤ i:=by
 unfold rts
 exact Nat.le_trans (List.length_filter_le _ _) (by rw [List.length_range];exact Nat.le_refl _)
theorem cls_le (rep:Nat → Nat) (i r:Nat):(cls rep i r).length ≤ i:=by
 unfold cls
 exact Nat.le_trans (List.length_filter_le _ _) (by rw [List.length_range];exact Nat.le_refl _)
theorem cls_new {rep:Nat → Nat} (h:∀ q,rep q ≤ q) (i:Nat):cls rep i i = []:=by
 unfold cls
 rw [List.filter_eq_nil_iff]
 intro q hq
 have:=h q
 have:=List.mem_range.1 hq
 simp
 omega
structure MC (J:IdD → Bool) (ts:List TchD) (rep:Nat → Nat) (roots:List Nat) (c:Nat) (ms:List MemD) (nos:Nat → List Int) (idss:Nat → List IdD) (ats:Nat → List Int):Prop where
 len:ms.length = roots.length
 key:∀ k (h:k < roots.length) (h':k < ms.length),ms[k].key = keyF J (tAt ts roots[k]).ids
 nos:∀ k (h:k < roots.length),nos k = (cls rep c roots[k]).map fun q => (tAt ts q).no
 ats:∀ k (h:k < roots.length),ats k = (cls rep c roots[k]).map fun q:Nat => (q:Int)
 ids:∀ k (h:k < roots.length),idss k = (cls rep c roots[k]).flatMap fun q => (tAt ts q).ids
section
variable {J:IdD → Bool} {ts:List TchD} {rep:Nat → Nat} {roots:List Nat} {c:Nat} {ms:List MemD} {nos ats:Nat → List Int} {idss:Nat → List IdD}
theorem MC.start (J:IdD → Bool) (ts:List TchD) (rep:Nat → Nat):MC J ts rep [] 0 [] (fun _ => []) (fun _ => []) (fun _ => []) :=
 ⟨rfl,fun k h => absurd h (by simp),fun k h => absurd h (by simp),fun k h => absurd h (by simp),fun k h => absurd h (by simp)⟩
theorem MC.new (h:MC J ts rep roots c ms nos idss ats) {r0:Nat} (h0:cls rep c r0 = []) {d:MemD} (hd:d.key = keyF J (tAt ts r0).ids) :
  MC J ts rep (roots ++ [r0]) c (ms ++ [d]) (fun k => if k < ms.length then nos k else []) (fun k => if k < ms.length then idss k else []) (fun k => if k < ms.length then ats k else []):=by
 have hl:=h.len
 have old:∀ k (h1:k < (roots ++ [r0]).length),k < ms.length → ∃ h2:k < roots.length,(roots ++ [r0])[k] = roots[k]:=fun k h1 h2 => ⟨by omega,List.getElem_append_left (by omega)⟩
 have new:∀ k (h1:k < (roots ++ [r0]).length),¬ k < ms.length → (roots ++ [r0])[k] = r0:=fun k h1 h2 => by
  rw [List.getElem_append_right (by omega)]
  simp
 refine ⟨by simp [hl],fun k h1 h2 => ?_,fun k h1 => ?_,fun k h1 => ?_,fun k h1 => ?_⟩
 ·by_cases e:k < ms.length
  ·obtain ⟨h3,e3⟩:=old k h1 e
   rw [e3,List.getElem_append_left e]
   exact h.key k h3 e
  ·rw [new k h1 e,List.getElem_append_right (by omega)]
   simpa using hd
 ·by_cases e:k < ms.length
  ·obtain ⟨h3,e3⟩:=old k h1 e
   rw [if_pos e,e3];exact h.nos k h3
  ·rw [if_neg e,new k h1 e,h0];rfl
 ·by_cases e:k < ms.length
  ·obtain ⟨h3,e3⟩:=old k h1 e
   rw [if_pos e,e3];exact h.ats k h3
  ·rw [if_neg e,new k h1 e,h0];rfl
 ·by_cases e:k < ms.length
  ·obtain ⟨h3,e3⟩:=old k h1 e
   rw [if_pos e,e3];exact h.ids k h3
  ·rw [if_neg e,new k h1 e,h0];rfl
theorem MC.add (h:MC J ts rep roots c ms nos idss ats) (hn:roots.Nodup) {k:Nat} (hk:k < roots.length) (hr:roots[k] = rep c) {ms':List MemD} (hl:ms'.length = ms.length) (hkey:∀ q (h1:q < ms.length) (h2:q < ms'.length),ms'[q].key = ms[q].key) :
  MC J ts rep roots (c + 1) ms' (fun q => if q = k then nos k ++ [(tAt ts c).no] else nos q) (fun q => if q = k then idss k ++ (tAt ts c).ids else idss q) (fun q => if q = k then ats k ++ [(c:Int)] else ats q):=by
 have oth:∀ q (h1:q < roots.length),q ≠ k → ¬ rep c = roots[q]:=fun q h1 hne e => by
  rw [← hr] at e
  rcases Nat.lt_trichotomy q k with d | d | d
  ·exact List.pairwise_iff_getElem.1 hn q k h1 hk d e.symm
  ·exact hne d
  ·exact List.pairwise_iff_getElem.1 hn k q hk h1 d e
 refine ⟨hl.trans h.len,fun q h1 h2 => ?_,fun q h1 => ?_,fun q h1 => ?_,fun q h1 => ?_⟩
 ·rw [hkey q (by have:=h.len;omega) h2]
  exact h.key q h1 (by have:=h.len;omega)
 ·rw [cls_succ]
  by_cases e:q = k
  ·subst e
   rw [if_pos rfl,if_pos hr.symm,h.nos q h1,List.map_append];rfl
  ·rw [if_neg e,if_neg (oth q h1 e),List.append_nil];exact h.nos q h1
 ·rw [cls_succ]
  by_cases e:q = k
  ·subst e
   rw [if_pos rfl,if_pos hr.symm,h.ats q h1,List.map_append];rfl
  ·rw [if_neg e,if_neg (oth q h1 e),List.append_nil];exact h.ats q h1
 ·rw [cls_succ]
  by_cases e:q = k
  ·subst e
   rw [if_pos rfl,if_pos hr.symm,h.ids q h1,List.flatMap_append]
   simp
  ·rw [if_neg e,if_neg (oth q h1 e),List.append_nil];exact h.ids q h1
end
theorem intKeyed:Maps.Keyed Tryz.prog 3:=Maps.int_keyed Tryz.underlying3
theorem keyInt {z:Int} (h0:0 ≤ z) (h1:z ≤ 1000000):keyOf Tryz.prog 3 (.int .i64 z) = some (.int .i64 z):=by
 have hw:(Lit.int .i64 z).wf = true:=by
  simp [Lit.wf,IntKind.min,IntKind.max,IntKind.signed,IntKind.bits]
  omega
 simp [keyOf,Tryz.underlying3,mapKey,hw]
structure PM (roots:List Nat) (pm:Lit → Option Value):Prop where
 has:∀ k (h:k < roots.length),pm (.int .i64 (roots[k]:Int)) = some (.int .i64 (k:Int))
 no:∀ q:Nat,q ∉ roots → q ≤ 1000000 → pm (.int .i64 (q:Int)) = none
theorem PM.start:PM [] mpNew:=⟨fun k h => absurd h (by simp),fun q _ _ => rfl⟩
theorem PM.add {roots:List Nat} {pm:Lit → Option Value} (h:PM roots pm) (hr:∀ q ∈ roots,q ≤ 1000000) {r0:Nat} (h0:r0 ∉ roots) (hb:r0 ≤ 1000000):PM (roots ++ [r0]) (mpSet pm (.int .i64 (r0:Int)) (.int .i64 (roots.length:Int))):=by
 have same:∀ q:Nat,q ≤ 1000000 → mpSet pm (.int .i64 (r0:Int)) (.int .i64 (roots.length:Int)) (.int .i64 (q:Int)) = if q = r0 then some (.int .i64 (roots.length:Int)) else pm (.int .i64 (q:Int)):=fun q hq => by
  unfold mpSet
  by_cases e:q = r0
  ·subst e
   rw [WideAt.sameKey_self (intKeyed.key (keyInt (by omega) (by omega))),if_pos rfl,if_pos rfl]
  ·rw [if_neg e,if_neg]
   intro c
   have:=WideAt.sameKey_eq c
   injection this with _ this
   omega
 refine ⟨fun k hk => ?_,fun q hq hb2 => ?_⟩
 ·by_cases e:k < roots.length
  ·rw [List.getElem_append_left e,same _ (hr _ (List.getElem_mem e)),if_neg (fun c => h0 (by rw [← c];exact List.getElem_mem e))]
   exact h.has k e
  ·have e2:k = roots.length:=by simp at hk;omega
   subst e2
   rw [List.getElem_append_right (Nat.le_refl _)]
   simp only [Nat.sub_self,List.getElem_cons_zero]
   rw [same _ hb,if_pos rfl]
 ·rw [List.mem_append,not_or] at hq
  rw [same q hb2,if_neg (fun c => hq.2 (by rw [c];simp))]
  exact h.no q hq.1 hb2
open Go.RowKit
structure RowsX (g0:Nat) (W0:World) (ts:List RowT) (L:Array Bool) (a:Act) (w:World):Prop where
 size:W0.heap.size ≤ w.heap.size
 os:w.os = W0.os
 tape:w.tape = W0.tape
 output:w.output = W0.output
 keep:∀ b,b < W0.heap.size → b ≠ g0 → (∀ t ∈ ts,t.v.ownBlock ≠ some b) → w.heap[b]? = W0.heap[b]?
 own:∀ t ∈ ts,t.own L a w
 apart:ts.Pairwise fun t u => apart (t.val L a) (u.val L a)
 lies:∀ t ∈ ts,(t.val L a).ownBlock = t.v.ownBlock ∨ ∃ g,(t.val L a).ownBlock = some g ∧ W0.heap.size ≤ g
section
variable {g0:Nat} {W0 w w':World} {ts:List RowT} {L:Array Bool} {a:Act}
theorem RowsX.start (h1:∀ t ∈ ts,W0.ownsRow t.B t.T t.k t.v t.n t.xs) (h2:ts.Pairwise fun t u => Proofs.YtcncifmanodabaaGreatDoor.apart t.v u.v) (m:Nat) (a:Act):RowsX g0 W0 ts (Array.replicate m false) a W0.drew:=by
 have hv:∀ t:RowT,t.val (Array.replicate m false) a = t.v:=fun t => by unfold RowT.val;rw [getD_replicate_false];rfl
 refine ⟨Nat.le_refl _,rfl,rfl,rfl,fun b _ _ _ => rfl,fun t ht => ?_,?_,fun t ht => Or.inl (by rw [hv])⟩
 ·unfold RowT.own
  rw [getD_replicate_false]
  exact h1 t ht
 ·refine h2.imp ?_
  intro t u h
  rw [hv,hv]
  exact h
theorem RowsX.step (h:RowsX g0 W0 ts L a w) (hb:Below w.heap.size w w') {i d:Nat} (hi:∀ t ∈ ts,t.i ≠ i ∧ t.s ≠ d) (v:Value):RowsX g0 W0 ts (L.setIfInBounds i true) (a.put (some d) v) w':=by
 have hL:∀ t ∈ ts,(L.setIfInBounds i true).getD t.i false = L.getD t.i false:=fun t ht => getD_set_ne false (Ne.symm (hi t ht).1)
 have hT:∀ t ∈ ts,(a.put (some d) v).tmps.getD t.s undef = a.tmps.getD t.s undef:=fun t ht => by
  simp only [Act.put,Array.getD_eq_getD_getElem?,Array.getElem?_setIfInBounds]
  simp [Ne.symm (hi t ht).2]
 have hV:∀ t ∈ ts,t.val (L.setIfInBounds i true) (a.put (some d) v) = t.val L a:=fun t ht => by unfold RowT.val;rw [hL t ht,hT t ht]
 have hO:∀ t ∈ ts,t.own L a w' → t.own (L.setIfInBounds i true) (a.put (some d) v) w':=fun t ht h => by unfold RowT.own at h ⊢;rw [hL t ht,hT t ht];exact h
 have hg:w.grownBy w' none:=⟨hb.os,hb.tape,hb.output,hb.size,fun k hk _ => hb.block k hk⟩
 refine ⟨Nat.le_trans h.size hb.size,hb.os.trans h.os,hb.tape.trans h.tape,hb.output.trans h.output,fun b hb1 hb0 hb2 => (hb.block b (Nat.lt_of_lt_of_le hb1 h.size)).trans (h.keep b hb1 hb0 hb2),fun t ht => hO t ht (RowT.own_kept (h.own t ht) hg ?_),?_,fun t ht => by rw [hV t ht];exact h.lies t ht⟩
 ·cases hv:(t.val L a).ownBlock with
  | none => exact Or.inl rfl
  | some g => exact Or.inr (by simp)
 ·refine h.apart.imp_of_mem ?_
  intro t u ht hu hap
  rw [hV t ht,hV u hu]
  exact hap
theorem RowsX.put {d:Nat} (h:RowsX g0 W0 ts L a w) {t:RowT} (ht:t ∈ ts) (hd:d = t.s) (hlist:L.getD t.i false = false) (hsz:t.i < L.size) (hs:t.s < a.tmps.size)
  (hother:∀ u ∈ ts,u ≠ t → u.i ≠ t.i ∧ u.s ≠ t.s) (v:Value) (ho:w'.ownsRow t.B t.T t.k v t.m t.ys) (hg:w.grownBy w' t.v.ownBlock) (hat:v.ownBlock = t.v.ownBlock ∨ v.ownBlock = some w.heap.size)
  (hnd:ts.Nodup) (hlt:∀ g,t.v.ownBlock = some g → g < W0.heap.size):RowsX g0 W0 ts (L.setIfInBounds t.i true) (a.put (some d) v) w' ∧ RowsE W0 w w' ∧ (g0 < W0.heap.size → t.v.ownBlock ≠ some g0 → w'.heap[g0]? = w.heap[g0]?):=by
 subst hd
 have hL:∀ u ∈ ts,u ≠ t → (L.setIfInBounds t.i true).getD u.i false = L.getD u.i false:=fun u hu hne => getD_set_ne false (Ne.symm (hother u hu hne).1)
 have hT:∀ u ∈ ts,u ≠ t → (a.put (some t.s) v).tmps.getD u.s undef = a.tmps.getD u.s undef:=fun u hu hne => by
  simp only [Act.put,Array.getD_eq_getD_getElem?,Array.getElem?_setIfInBounds]
  simp [Ne.symm (hother u hu hne).2]
 have hV:∀ u ∈ ts,u ≠ t → u.val (L.setIfInBounds t.i true) (a.put (some t.s) v) = u.val L a:=fun u hu hne => by unfold RowT.val;rw [hL u hu hne,hT u hu hne]
 have hVt0:t.val L a = t.v:=by unfold RowT.val;rw [hlist];rfl
 have hLt:(L.setIfInBounds t.i true).getD t.i false = true:=getD_set_self hsz
 have hTt:(a.put (some t.s) v).tmps.getD t.s undef = v:=by rw [getD_put hs,if_pos rfl]
 have hVt:t.val (L.setIfInBounds t.i true) (a.put (some t.s) v) = v:=by unfold RowT.val;rw [hLt,hTt];rfl
 have hap:∀ u ∈ ts,u ≠ t → Proofs.YtcncifmanodabaaGreatDoor.apart (u.val L a) t.v:=by
  intro u hu hne
  have key:∀ (l:List RowT),(l.Pairwise fun t u => Proofs.YtcncifmanodabaaGreatDoor.apart (t.val L a) (u.val L a)) → u ∈ l → t ∈ l → Proofs.YtcncifmanodabaaGreatDoor.apart (u.val L a) (t.val L a):=by
   intro l hp
   induction hp with
   | nil => intro h;cases h
   | cons hx _ ih =>
    intro hu ht
    rcases List.mem_cons.1 hu with hu | hu
    ·rcases List.mem_cons.1 ht with ht | ht
     ·exact absurd (hu.trans ht.symm) hne
     ·rw [hu];exact hx _ ht
    ·rcases List.mem_cons.1 ht with ht | ht
     ·rw [ht];exact (hx _ hu).symm
     ·exact ih hu ht
  have:=key ts h.apart hu ht
  rwa [hVt0] at this
 refine ⟨⟨Nat.le_trans h.size hg.size,hg.os.trans h.os,hg.tape.trans h.tape,hg.output.trans h.output,fun b hb1 hb0 hb2 => (hg.block b (Nat.lt_of_lt_of_le hb1 h.size) (fun e => hb2 t ht e.symm)).trans (h.keep b hb1 hb0 hb2),fun u hu => ?_,?_,fun u hu => ?_⟩,⟨hg.size,fun b hb1 hb2 => hg.block b hb2 (fun e => by have:=hlt b e.symm;omega)⟩,fun h1 h2 => hg.block g0 (Nat.lt_of_lt_of_le h1 h.size) (fun e => h2 e.symm)⟩
 ·by_cases hne:u = t
  ·subst hne
   unfold RowT.own
   rw [hLt,hTt]
   exact ho
  ·have:=RowT.own_kept (h.own u hu) hg (hap u hu hne).symm.ne
   unfold RowT.own at this ⊢
   rw [hL u hu hne,hT u hu hne]
   exact this
 ·have hval:∀ u ∈ ts,u ≠ t → Proofs.YtcncifmanodabaaGreatDoor.apart (u.val (L.setIfInBounds t.i true) (a.put (some t.s) v)) (t.val (L.setIfInBounds t.i true) (a.put (some t.s) v)):=by
   intro u hu hne
   rw [hVt,hV u hu hne]
   rcases hat with hat | hat
   ·rcases hap u hu hne with h1 | h1 | h1
    ·exact Or.inl h1
    ·exact Or.inr (Or.inl (hat.trans h1))
    ·exact Or.inr (Or.inr (by rw [hat];exact h1))
   ·right;right
    rw [hat]
    intro c
    obtain ⟨n,xs,hn⟩:=RowT.own_val (h.own u hu)
    have:=(World.ownsRow.lt hn _ c).2
    omega
  have key:∀ (l:List RowT),(∀ u ∈ l,u ∈ ts) → l.Nodup → (l.Pairwise fun t u => Proofs.YtcncifmanodabaaGreatDoor.apart (t.val L a) (u.val L a)) → l.Pairwise fun x y => Proofs.YtcncifmanodabaaGreatDoor.apart (x.val (L.setIfInBounds t.i true) (a.put (some t.s) v)) (y.val (L.setIfInBounds t.i true) (a.put (some t.s) v)):=by
   intro l hl hnd hp
   induction hp with
   | nil => exact List.Pairwise.nil
   | @cons x l hx _ ih =>
    obtain ⟨hxl,hnd'⟩:=List.nodup_cons.1 hnd
    refine List.Pairwise.cons (fun y hy => ?_) (ih (fun u hu => hl u (List.mem_cons_of_mem _ hu)) hnd')
    have hxm:=hl x List.mem_cons_self
    have hym:=hl y (List.mem_cons_of_mem _ hy)
    by_cases e1:x = t
    ·have e2:y ≠ t:=fun e => hxl (by rw [e1,← e];exact hy)
     rw [e1]
     exact (hval y hym e2).symm
    ·by_cases e2:y = t
     ·rw [e2];exact hval x hxm e1
     ·rw [hV x hxm e1,hV y hym e2];exact hx y hy
  exact key ts (fun u hu => hu) hnd h.apart
 ·by_cases hne:u = t
  ·subst hne
   rw [hVt]
   rcases hat with hat | hat
   ·exact Or.inl hat
   ·exact Or.inr ⟨_,hat,h.size⟩
  ·rw [hV u hu hne];exact h.lies u hu
theorem RowsX.apps {P:Program} {o:Oper} (h:RowsX g0 W0 ts L a w) {t:RowT} (ht:t ∈ ts) (hd:o.dst = some t.s) (hlist:L.getD t.i false = false) (hsz:t.i < L.size) (hs:t.s < a.tmps.size)
  (hother:∀ u ∈ ts,u ≠ t → u.i ≠ t.i ∧ u.s ≠ t.s) (hnd:ts.Nodup) (hlt:∀ g,t.v.ownBlock = some g → g < W0.heap.size)
  (x y:Operand) (ty:TypeId) (hop:o.op = .call { callee:=.builtin .append,args:=#[x,y],argTypes:=#[ty,ty] })
  (i:TypeInfo) (z:Value) (bytes:Nat) (hty:P.underlying ty = some (.slice t.T)) (hi:P.info? t.T = some i) (hz:i.zero = some z)
  (hsize:i.size = t.k) (hby:i.bytes = bytes) (hzs:z.cells.size = t.k) (hk:0 < t.k) (hx:a.eval x = t.v)
  (ad:Addr) (m c:Nat) (news:List Value) (hy:a.eval y = .slice (some ad) m c) (hl:news.length = m * t.k) (hnews:∀ j u,news[j]? = some u → w.cell? (ad.add j) = some u) (h1:∀ u ∈ news,u.oneCell' = true)
  (hm:t.m = t.n + m) (hys:t.ys = t.xs ++ news) (hn:t.n + m ≤ 4294967296) (hbytes:bytes ≤ 4096) (hB:t.B ≤ W0.heap.size) :
  OpV P o a.eval w fun v w' => RowsX g0 W0 ts (L.setIfInBounds t.i true) (a.put o.dst v) w' ∧ RowsE W0 w w' ∧ (g0 < W0.heap.size → t.v.ownBlock ≠ some g0 → w'.heap[g0]? = w.heap[g0]?):=by
 have hown:w.ownsRow t.B t.T t.k t.v t.n t.xs:=by
  have:=h.own t ht
  unfold RowT.own at this
  rw [hlist] at this
  exact this
 obtain ⟨v',w',hrun,o1,g1,-,at1⟩:=run_append_own_at (P:=P) w t.B ty o.type t.T i z t.k bytes hty hi hz hsize hby hzs hk t.v t.n t.xs hown ad m c news hl hnews h1 (by simp only [maxLen];omega) (by
   have:(t.n + m) * bytes ≤ 4294967296 * 4096:=Nat.mul_le_mul hn hbytes
   omega) (Nat.le_trans hB h.size)
 refine OpV.append x y ty _ _ v' hop hx hy hrun ?_
 rw [hd]
 exact h.put ht rfl hlist hsz hs hother v' (by rw [hm,hys];exact o1) g1 at1 hnd hlt
theorem RowsX.app {P:Program} {o:Oper} (h:RowsX g0 W0 ts L a w) {t:RowT} (ht:t ∈ ts) (hd:o.dst = some t.s) (hlist:L.getD t.i false = false) (hsz:t.i < L.size) (hs:t.s < a.tmps.size)
  (hother:∀ u ∈ ts,u ≠ t → u.i ≠ t.i ∧ u.s ≠ t.s) (hnd:ts.Nodup) (hlt:∀ g,t.v.ownBlock = some g → g < W0.heap.size)
  (x y:Operand) (ty:TypeId) (hop:o.op = .call { callee:=.builtin .append,args:=#[x,y],argTypes:=#[ty,ty] })
  (i:TypeInfo) (z:Value) (bytes:Nat) (hty:P.underlying ty = some (.slice t.T)) (hi:P.info? t.T = some i) (hz:i.zero = some z)
  (hsize:i.size = t.k) (hby:i.bytes = bytes) (hzs:z.cells.size = t.k) (hk:0 < t.k) (hx:a.eval x = t.v)
  (b:Nat) (cs:Array Value) (T':TypeId) (hy:a.eval y = .slice (some ⟨b,0,none⟩) 1 1) (hb:w.heap[b]? = some (.cells cs T' (0,0))) (hcs:cs.size = t.k) (h1:∀ u ∈ cs.toList,u.oneCell' = true)
  (hm:t.m = t.n + 1) (hys:t.ys = t.xs ++ cs.toList) (hn:t.n ≤ 4294967296) (hbytes:bytes ≤ 4096) (hB:t.B ≤ W0.heap.size) :
  OpV P o a.eval w fun v w' => RowsX g0 W0 ts (L.setIfInBounds t.i true) (a.put o.dst v) w' ∧ RowsE W0 w w' ∧ (g0 < W0.heap.size → t.v.ownBlock ≠ some g0 → w'.heap[g0]? = w.heap[g0]?):=by
 have hown:w.ownsRow t.B t.T t.k t.v t.n t.xs:=by
  have:=h.own t ht
  unfold RowT.own at this
  rw [hlist] at this
  exact this
 obtain ⟨v',w',hrun,o1,g1,-,at1⟩:=run_append_own_at (P:=P) w t.B ty o.type t.T i z t.k bytes hty hi hz hsize hby hzs hk t.v t.n t.xs hown ⟨b,0,none⟩ 1 1 cs.toList (by simpa using hcs) (fun j u hu => by
   rw [Addr.add_lit]
   simp only [World.cell?,hb]
   simp at hu ⊢
   exact hu) h1 (by simp only [maxLen];omega) (by
   have:(t.n + 1) * bytes ≤ 4294967297 * 4096:=Nat.mul_le_mul (by omega) hbytes
   omega) (Nat.le_trans hB h.size)
 refine OpV.append x y ty _ _ v' hop hx hy hrun ?_
 rw [hd]
 exact h.put ht rfl hlist hsz hs hother v' (by rw [hm,hys];exact o1) g1 at1 hnd hlt
end
theorem RowsX.inn {g0:Nat} {W0 w:World} {ts:List RowT} {L:Array Bool} {a:Act} {H:Frz} (h:RowsX g0 W0 ts L a w) (hH:H.In W0) (h0:H g0 = none) (hn:∀ t ∈ ts,∀ g,t.v.ownBlock = some g → H g = none):H.In w:=fun b o e => by
 refine (h.keep b (hH.lt e) (fun c => by rw [c,h0] at e;cases e) (fun t ht c => ?_)).trans (hH b o e)
 rw [hn t ht b c] at e
 cases e
theorem RowsX.below {g0:Nat} {W0 w:World} {ts:List RowT} {L:Array Bool} {a:Act} {B:Nat} (h:RowsX g0 W0 ts L a w) (hB:B ≤ W0.heap.size) (h0:B ≤ g0) (hn:∀ t ∈ ts,∀ g,t.v.ownBlock = some g → B ≤ g):Below B W0 w :=
 ⟨h.os,h.tape,h.output,h.size,fun b hb => h.keep b (by omega) (by omega) (fun t ht c => by have:=hn t ht b c;omega)⟩
theorem RowsX.store {g0:Nat} {W0 w w':World} {ts:List RowT} {L:Array Bool} {a:Act} (h:RowsX g0 W0 ts L a w) (hg:w.grownBy w' (some g0)) (hg0:g0 < W0.heap.size) (hne:∀ t ∈ ts,t.v.ownBlock ≠ some g0) {i:Nat} (hi:∀ t ∈ ts,t.i ≠ i):RowsX g0 W0 ts (L.setIfInBounds i true) a w':=by
 have hL:∀ t ∈ ts,(L.setIfInBounds i true).getD t.i false = L.getD t.i false:=fun t ht => getD_set_ne false (Ne.symm (hi t ht))
 have hV:∀ t ∈ ts,t.val (L.setIfInBounds i true) a = t.val L a:=fun t ht => by unfold RowT.val;rw [hL t ht]
 have hO:∀ t ∈ ts,t.own L a w' → t.own (L.setIfInBounds i true) a w':=fun t ht h => by unfold RowT.own at h ⊢;rw [hL t ht];exact h
 have hfar:∀ t ∈ ts,(t.val L a).ownBlock = none ∨ (t.val L a).ownBlock ≠ some g0:=fun t ht => by
  right
  rcases h.lies t ht with e | ⟨g,e,hge⟩
  ·rw [e];exact hne t ht
  ·rw [e];intro c;injection c with c;omega
 refine ⟨Nat.le_trans h.size hg.size,hg.os.trans h.os,hg.tape.trans h.tape,hg.output.trans h.output,fun b hb1 hb0 hb2 => (hg.block b (Nat.lt_of_lt_of_le hb1 h.size) (fun e => by injection e with e;exact hb0 e)).trans (h.keep b hb1 hb0 hb2),fun t ht => hO t ht (RowT.own_kept (h.own t ht) hg (hfar t ht)),?_,fun t ht => by rw [hV t ht];exact h.lies t ht⟩
 refine h.apart.imp_of_mem ?_
 intro t u ht hu hap
 rw [hV t ht,hV u hu]
 exact hap
open Go.RowKit
structure J12 (go off:Nat) (W0:World) (ts:List RowT) (L:Array Bool) (a:Act) (W:World):Prop where
 rows:RowsX go W0 ts L a W
 g0:L.getD 27 false = false → W.heap[go]? = W0.heap[go]?
 g1:L.getD 27 false = true → W.heap[go]? = (W0.setCell ⟨go,off,none⟩ (a.tmps.getD 66 undef)).heap[go]?
 d1:L.getD 27 false = true → L.getD 16 false = true
 d2:L.getD 16 false = true → L.getD 6 false = true
section
variable {go off:Nat} {W0 W W':World} {ts:List RowT} {L:Array Bool} {a:Act}
theorem J12.start (h1:∀ t ∈ ts,W0.ownsRow t.B t.T t.k t.v t.n t.xs) (h2:ts.Pairwise fun t u => Proofs.YtcncifmanodabaaGreatDoor.apart t.v u.v) (m:Nat) (a:Act):J12 go off W0 ts (Array.replicate m false) a W0.drew :=
 ⟨RowsX.start h1 h2 m a,fun _ => rfl,fun h => (by rw [getD_replicate_false] at h;cases h),fun h => (by rw [getD_replicate_false] at h;cases h),fun h => (by rw [getD_replicate_false] at h;cases h)⟩
theorem J12.step (h:J12 go off W0 ts L a W) (hgo:go < W0.heap.size) (hb:Below W.heap.size W W') {i d:Nat} (hi:∀ t ∈ ts,t.i ≠ i ∧ t.s ≠ d) (h27:i ≠ 27) (h16:i ≠ 16) (h66:d ≠ 66) (v:Value):J12 go off W0 ts (L.setIfInBounds i true) (a.put (some d) v) W':=by
 have hk:W'.heap[go]? = W.heap[go]?:=hb.block go (Nat.lt_of_lt_of_le hgo h.rows.size)
 refine ⟨h.rows.step hb hi v,fun e => ?_,fun e => ?_,fun e => ?_,fun e => ?_⟩
 ·rw [getD_set_ne false h27] at e;exact hk.trans (h.g0 e)
 ·rw [getD_set_ne false h27] at e;rw [hk,put_ne h66];exact h.g1 e
 ·rw [getD_set_ne false h27] at e;rw [getD_set_ne false h16];exact h.d1 e
 ·rw [getD_set_ne false h16] at e
  have:=h.d2 e
  by_cases c:i = 6
  ·subst c
   by_cases hs:6 < L.size
   ·exact getD_set_self hs
   ·have e6:L.getD 6 false = false:=by simp [hs]
    rw [e6] at this;cases this
  ·rw [getD_set_ne false c];exact this
theorem J12.app (h:J12 go off W0 ts L a W) {i d:Nat} {v:Value} (hr:RowsX go W0 ts (L.setIfInBounds i true) (a.put (some d) v) W') (hk:W'.heap[go]? = W.heap[go]?) (hc:(i = 16 ∧ L.getD 6 false = true ∧ L.getD 16 false = false) ∨ (i = 23 ∧ d ≠ 66)):J12 go off W0 ts (L.setIfInBounds i true) (a.put (some d) v) W':=by
 have n27:i ≠ 27:=by omega
 have n6:i ≠ 6:=by omega
 refine ⟨hr,fun e => ?_,fun e => ?_,fun e => ?_,fun e => ?_⟩
 ·rw [getD_set_ne false n27] at e;exact hk.trans (h.g0 e)
 ·rw [getD_set_ne false n27] at e
  rcases hc with ⟨_,_,h16⟩ | ⟨_,h66⟩
  ·rw [h.d1 e] at h16;cases h16
  ·rw [hk,put_ne h66];exact h.g1 e
 ·rw [getD_set_ne false n27] at e
  by_cases c:i = 16
  ·rcases hc with ⟨_,_,h16⟩ | ⟨c2,_⟩
   ·rw [h.d1 e] at h16;cases h16
   ·omega
  ·rw [getD_set_ne false c];exact h.d1 e
 ·rw [getD_set_ne false n6]
  rcases hc with ⟨_,h6,_⟩ | ⟨c2,_⟩
  ·exact h6
  ·rw [getD_set_ne false (by omega)] at e;exact h.d2 e
theorem J12.store (h:J12 go off W0 ts L a W) (hgo:go < W0.heap.size) (hne:∀ t ∈ ts,t.v.ownBlock ≠ some go) (hi:∀ t ∈ ts,t.i ≠ 27) (h27:L.getD 27 false = false) (hs:27 < L.size) (h16:L.getD 16 false = true):J12 go off W0 ts (L.setIfInBounds 27 true) a (W.setCell ⟨go,off,none⟩ (a.tmps.getD 66 undef)):=by
 refine ⟨h.rows.store (grown_setC (World.grownBy.refl _ _) _ _) hgo hne hi,fun e => ?_,fun e => ?_,fun e => ?_,fun e => ?_⟩
 ·rw [getD_set_self hs] at e;cases e
 ·have:=h.g0 h27
  simp only [World.setCell,Array.getElem?_modify,this]
 ·rw [getD_set_ne false (by decide)];exact h16
 ·rw [getD_set_ne false (by decide)] at e ⊢;exact h.d2 e
end
open Go.RowKit
def IdsOk (l out:List IdD):Prop:=(out.Pairwise fun a b => idCmp a b < 0) ∧ ∀ x,x ∈ out ↔ x ∈ l
theorem compG_strict:∀ (l:List IdD) (p:IdD),((p :: l).Pairwise fun a b => idCmp a b ≤ 0) → (p :: compG eqId p l).Pairwise fun a b => idCmp a b < 0
 | [],p,_ => List.pairwise_singleton _ _
 | y :: l,p,h => by
  obtain ⟨h1,h2⟩:=List.pairwise_cons.1 h
  have ih:=compG_strict l y h2
  unfold compG
  split
  ·next e =>
   rw [eqId_iff.1 e] at ih ⊢
   exact ih
  ·next e =>
   have hlt:idCmp p y < 0:=by
    have h3:=h1 y (by simp)
    have h4:idCmp p y ≠ 0:=fun c => e (eqId_iff.2 (idCmp_zero.1 c).symm)
    omega
   refine List.pairwise_cons.2 ⟨fun z hz => ?_,ih⟩
   rcases List.mem_cons.1 hz with rfl | hz
   ·exact hlt
   ·exact idCmp_lt_trans hlt ((List.pairwise_cons.1 ih).1 z hz)
theorem idsOk {l s:List IdD} (hp:s.Perm l) (hs:s.Pairwise fun a b => idCmp a b ≤ 0):IdsOk l (compF eqId s):=by
 refine ⟨?_,fun x => ⟨fun hx => hp.mem_iff.1 ((compF_sub eqId s).subset hx),fun hx => ?_⟩⟩
 ·cases s with
  | nil => exact List.Pairwise.nil
  | cons p s => exact compG_strict s p hs
 ·obtain ⟨y,hy,e⟩:=compF_cov eqId_self (fun a b h => eqId_iff.2 (eqId_iff.1 h).symm) (fun a b c h1 h2 => eqId_iff.2 ((eqId_iff.1 h1).trans (eqId_iff.1 h2))) (hp.mem_iff.2 hx)
  rw [eqId_iff.1 e]
  exact hy
end Go.Proofs.YtcncifmanodabaaGreatDoor
