/- Texts of this claim, put together: AppRow, Mp, MpE, IdD, EqId. -/
import Derived.Test.YtbidhpgjmcedaaaGreatDoorGAI
import Derived.Test.YtbidhpgjmcedaaaGreatDoorGAH
import Derived.Test.YtbidhpgjmcedaaaGreatDoorGAB
import Derived.Maps.OwnSet
import Derived.WideKeyEntry
import Derived.Test.YtbidhpgjmcedaaaGreatDoorGAG
import Derived.Test.YtbidhpgjmcedaaaGreatDoorGAC
namespace Go.Proofs.YtbidhpgjmcedaaaGreatDoor
set_option linter.unusedVariables false
open Go.RowKit
structure RowT where
 i : Nat
 s : Nat
 v : Value
 B : Nat
 T : TypeId
 k : Nat
 n : Nat
 xs : List Value
 m : Nat
 ys : List Value
def apart (u v : Value) : Prop:=u.ownBlock = none ∨ v.ownBlock = none ∨ u.ownBlock ≠ v.ownBlock
theorem apart.symm {u v : Value} (h : apart u v) : apart v u:=by
 rcases h with h | h | h
 ·exact Or.inr (Or.inl h)
 ·exact Or.inl h
 ·exact Or.inr (Or.inr (fun e => h e.symm))
theorem apart.ne {u v : Value} (h : apart u v) : v.ownBlock = none ∨ v.ownBlock ≠ u.ownBlock:=by
 rcases h with h | h | h
 ·rw [h]
  cases hv : v.ownBlock with
  | none => exact Or.inl rfl
  | some g => exact Or.inr (by simp)
 ·exact Or.inl h
 ·exact Or.inr (fun e => h e.symm)
def RowT.val (t : RowT) (L : Array Bool) (a : Act) : Value:=if L.getD t.i false = true then a.tmps.getD t.s undef else t.v
def RowT.own (t : RowT) (L : Array Bool) (a : Act) (w : World) : Prop:=if L.getD t.i false = true then w.ownsRow t.B t.T t.k (a.tmps.getD t.s undef) t.m t.ys else w.ownsRow t.B t.T t.k t.v t.n t.xs
theorem RowT.own_val {t : RowT} {L : Array Bool} {a : Act} {w : World} (h : t.own L a w) : ∃ n xs,w.ownsRow t.B t.T t.k (t.val L a) n xs:=by
 unfold RowT.own at h
 unfold RowT.val
 split at h
 ·rename_i e; rw [if_pos e]; exact ⟨_,_,h⟩
 ·rename_i e; rw [if_neg e]; exact ⟨_,_,h⟩
theorem RowT.own_kept {t : RowT} {L : Array Bool} {a : Act} {w w' : World} (h : t.own L a w) {row : Option Nat} (hg : w.grownBy w' row) (hne : (t.val L a).ownBlock = none ∨ (t.val L a).ownBlock ≠ row) : t.own L a w':=by
 unfold RowT.own at h ⊢
 unfold RowT.val at hne
 split at h
 ·rename_i e; rw [if_pos e] at hne ⊢; exact World.ownsRow.kept h hg hne
 ·rename_i e; rw [if_neg e] at hne ⊢; exact World.ownsRow.kept h hg hne
structure RowsJ (W0 : World) (ts : List RowT) (L : Array Bool) (a : Act) (w : World) : Prop where
 size : W0.heap.size ≤ w.heap.size
 os : w.os = W0.os
 tape : w.tape = W0.tape
 output : w.output = W0.output
 keep : ∀ b,b < W0.heap.size → (∀ t ∈ ts,t.v.ownBlock ≠ some b) → w.heap[b]? = W0.heap[b]?
 own : ∀ t ∈ ts,t.own L a w
 apart : ts.Pairwise fun t u => apart (t.val L a) (u.val L a)
 lies : ∀ t ∈ ts,(t.val L a).ownBlock = t.v.ownBlock ∨ ∃ g,(t.val L a).ownBlock = some g ∧ W0.heap.size ≤ g
def RowsE (W0 : World) (w w' : World) : Prop:=w.heap.size ≤ w'.heap.size ∧ ∀ b,W0.heap.size ≤ b → b < w.heap.size → w'.heap[b]? = w.heap[b]?
theorem RowsE.of {W0 w w' : World} (h : Below w.heap.size w w') : RowsE W0 w w':=⟨h.size,fun b _ hb => h.block b hb⟩
theorem getD_set_self {L : Array Bool} {i : Nat} (hi : i < L.size) : (L.setIfInBounds i true).getD i false = true:=by simp [hi]
section
variable {W0 w w' : World} {ts : List RowT} {L : Array Bool} {a : Act}
theorem RowsJ.start (h1 : ∀ t ∈ ts,W0.ownsRow t.B t.T t.k t.v t.n t.xs) (h2 : ts.Pairwise fun t u => Proofs.YtbidhpgjmcedaaaGreatDoor.apart t.v u.v) (m : Nat) (a : Act) : RowsJ W0 ts (Array.replicate m false) a W0.drew:=by
 have hv : ∀ t : RowT,t.val (Array.replicate m false) a = t.v:=fun t => by unfold RowT.val; rw [getD_replicate_false]; rfl
 refine ⟨Nat.le_refl _,rfl,rfl,rfl,fun b _ _ => rfl,fun t ht => ?_,?_,fun t ht => Or.inl (by rw [hv])⟩
 ·unfold RowT.own
  rw [getD_replicate_false]
  exact h1 t ht
 ·refine h2.imp ?_
  intro t u h
  rw [hv,hv]
  exact h
theorem RowsJ.step (h : RowsJ W0 ts L a w) (hb : Below w.heap.size w w') {i d : Nat} (hi : ∀ t ∈ ts,t.i ≠ i ∧ t.s ≠ d) (v : Value) : RowsJ W0 ts (L.setIfInBounds i true) (a.put (some d) v) w':=by
 have hL : ∀ t ∈ ts,(L.setIfInBounds i true).getD t.i false = L.getD t.i false:=fun t ht => getD_set_ne false (Ne.symm (hi t ht).1)
 have hT : ∀ t ∈ ts,(a.put (some d) v).tmps.getD t.s undef = a.tmps.getD t.s undef:=fun t ht => by
  simp only [Act.put,Array.getD_eq_getD_getElem?,Array.getElem?_setIfInBounds]
  simp [Ne.symm (hi t ht).2]
 have hV : ∀ t ∈ ts,t.val (L.setIfInBounds i true) (a.put (some d) v) = t.val L a:=fun t ht => by unfold RowT.val; rw [hL t ht,hT t ht]
 have hO : ∀ t ∈ ts,t.own L a w' → t.own (L.setIfInBounds i true) (a.put (some d) v) w':=fun t ht h => by unfold RowT.own at h ⊢; rw [hL t ht,hT t ht]; exact h
 have hg : w.grownBy w' none:=⟨hb.os,hb.tape,hb.output,hb.size,fun k hk _ => hb.block k hk⟩
 refine ⟨Nat.le_trans h.size hb.size,hb.os.trans h.os,hb.tape.trans h.tape,hb.output.trans h.output,fun b hb1 hb2 => (hb.block b (Nat.lt_of_lt_of_le hb1 h.size)).trans (h.keep b hb1 hb2),fun t ht => hO t ht (RowT.own_kept (h.own t ht) hg ?_),?_,fun t ht => by rw [hV t ht]; exact h.lies t ht⟩
 ·cases hv : (t.val L a).ownBlock with
  | none => exact Or.inl rfl
  | some g => exact Or.inr (by simp)
 ·refine h.apart.imp_of_mem ?_
  intro t u ht hu hap
  rw [hV t ht,hV u hu]
  exact hap
theorem RowsJ.put {d : Nat} (h : RowsJ W0 ts L a w) {t : RowT} (ht : t ∈ ts) (hd : d = t.s) (hlist : L.getD t.i false = false) (hsz : t.i < L.size) (hs : t.s < a.tmps.size)
  (hother : ∀ u ∈ ts,u ≠ t → u.i ≠ t.i ∧ u.s ≠ t.s) (v : Value) (ho : w'.ownsRow t.B t.T t.k v t.m t.ys) (hg : w.grownBy w' t.v.ownBlock) (hat : v.ownBlock = t.v.ownBlock ∨ v.ownBlock = some w.heap.size)
  (hnd : ts.Nodup) (hlt : ∀ g,t.v.ownBlock = some g → g < W0.heap.size) : RowsJ W0 ts (L.setIfInBounds t.i true) (a.put (some d) v) w' ∧ RowsE W0 w w':=by
 subst hd
 have hL : ∀ u ∈ ts,u ≠ t → (L.setIfInBounds t.i true).getD u.i false = L.getD u.i false:=fun u hu hne => getD_set_ne false (Ne.symm (hother u hu hne).1)
 have hT : ∀ u ∈ ts,u ≠ t → (a.put (some t.s) v).tmps.getD u.s undef = a.tmps.getD u.s undef:=fun u hu hne => by
  simp only [Act.put,Array.getD_eq_getD_getElem?,Array.getElem?_setIfInBounds]
  simp [Ne.symm (hother u hu hne).2]
 have hV : ∀ u ∈ ts,u ≠ t → u.val (L.setIfInBounds t.i true) (a.put (some t.s) v) = u.val L a:=fun u hu hne => by unfold RowT.val; rw [hL u hu hne,hT u hu hne]
 have hVt0 : t.val L a = t.v:=by unfold RowT.val; rw [hlist]; rfl
 have hLt : (L.setIfInBounds t.i true).getD t.i false = true:=getD_set_self hsz
 have hTt : (a.put (some t.s) v).tmps.getD t.s undef = v:=by rw [getD_put hs,if_pos rfl]
 have hVt : t.val (L.setIfInBounds t.i true) (a.put (some t.s) v) = v:=by unfold RowT.val; rw [hLt,hTt]; rfl
 have hap : ∀ u ∈ ts,u ≠ t → Proofs.YtbidhpgjmcedaaaGreatDoor.apart (u.val L a) t.v:=by
  intro u hu hne
  have key : ∀ (l : List RowT),(l.Pairwise fun t u => Proofs.YtbidhpgjmcedaaaGreatDoor.apart (t.val L a) (u.val L a)) → u ∈ l → t ∈ l → Proofs.YtbidhpgjmcedaaaGreatDoor.apart (u.val L a) (t.val L a):=by
   intro l hp
   induction hp with
   | nil => intro h; cases h
   | cons hx _ ih =>
    intro hu ht
    rcases List.mem_cons.1 hu with hu | hu
    ·rcases List.mem_cons.1 ht with ht | ht
     ·exact absurd (hu.trans ht.symm) hne
     ·rw [hu]; exact hx _ ht
    ·rcases List.mem_cons.1 ht with ht | ht
     ·rw [ht]; exact (hx _ hu).symm
     ·exact ih hu ht
  have:=key ts h.apart hu ht
  rwa [hVt0] at this
 refine ⟨⟨Nat.le_trans h.size hg.size,hg.os.trans h.os,hg.tape.trans h.tape,hg.output.trans h.output,fun b hb1 hb2 => (hg.block b (Nat.lt_of_lt_of_le hb1 h.size) (fun e => hb2 t ht e.symm)).trans (h.keep b hb1 hb2),fun u hu => ?_,?_,fun u hu => ?_⟩,⟨hg.size,fun b hb1 hb2 => hg.block b hb2 (fun e => by have:=hlt b e.symm; omega)⟩⟩
 ·by_cases hne : u = t
  ·subst hne
   unfold RowT.own
   rw [hLt,hTt]
   exact ho
  ·have:=RowT.own_kept (h.own u hu) hg (hap u hu hne).symm.ne
   unfold RowT.own at this ⊢
   rw [hL u hu hne,hT u hu hne]
   exact this
 ·have hval : ∀ u ∈ ts,u ≠ t → Proofs.YtbidhpgjmcedaaaGreatDoor.apart (u.val (L.setIfInBounds t.i true) (a.put (some t.s) v)) (t.val (L.setIfInBounds t.i true) (a.put (some t.s) v)):=by
   intro u hu hne
   rw [hVt,hV u hu hne]
   rcases hat with hat | hat
   ·rcases hap u hu hne with h1 | h1 | h1
    ·exact Or.inl h1
    ·exact Or.inr (Or.inl (hat.trans h1))
    ·exact Or.inr (Or.inr (by rw [hat]; exact h1))
   ·right; right
    rw [hat]
    intro c
    obtain ⟨n,xs,hn⟩:=RowT.own_val (h.own u hu)
    have:=(World.ownsRow.lt hn _ c).2
    omega
  have key : ∀ (l : List RowT),(∀ u ∈ l,u ∈ ts) → l.Nodup → (l.Pairwise fun t u => Proofs.YtbidhpgjmcedaaaGreatDoor.apart (t.val L a) (u.val L a)) → l.Pairwise fun x y => Proofs.YtbidhpgjmcedaaaGreatDoor.apart (x.val (L.setIfInBounds t.i true) (a.put (some t.s) v)) (y.val (L.setIfInBounds t.i true) (a.put (some t.s) v)):=by
   intro l hl hnd hp
   induction hp with
   | nil => exact List.Pairwise.nil
   | @cons x l hx _ ih =>
    obtain ⟨hxl,hnd'⟩:=List.nodup_cons.1 hnd
    refine List.Pairwise.cons (fun y hy => ?_) (ih (fun u hu => hl u (List.mem_cons_of_mem _ hu)) hnd')
    have hxm:=hl x List.mem_cons_self
    have hym:=hl y (List.mem_cons_of_mem _ hy)
    by_cases e1 : x = t
    ·have e2 : y ≠ t:=fun e => hxl (by rw [e1,← e]; exact hy)
     rw [e1]
     exact (hval y hym e2).symm
    ·by_cases e2 : y = t
     ·rw [e2]; exact hval x hxm e1
     ·rw [hV x hxm e1,hV y hym e2]; exact hx y hy
  exact key ts (fun u hu => hu) hnd h.apart
 ·by_cases hne : u = t
  ·subst hne
   rw [hVt]
   rcases hat with hat | hat
   ·exact Or.inl hat
   ·exact Or.inr ⟨_,hat,h.size⟩
  ·rw [hV u hu hne]; exact h.lies u hu
theorem RowsJ.apps {P : Program} {o : Oper} (h : RowsJ W0 ts L a w) {t : RowT} (ht : t ∈ ts) (hd : o.dst = some t.s) (hlist : L.getD t.i false = false) (hsz : t.i < L.size) (hs : t.s < a.tmps.size)
  (hother : ∀ u ∈ ts,u ≠ t → u.i ≠ t.i ∧ u.s ≠ t.s) (hnd : ts.Nodup) (hlt : ∀ g,t.v.ownBlock = some g → g < W0.heap.size)
  (x y : Operand) (ty : TypeId) (hop : o.op = .call { callee:=.builtin .append,args:=#[x,y],argTypes:=#[ty,ty] })
  (i : TypeInfo) (z : Value) (bytes : Nat) (hty : P.underlying ty = some (.slice t.T)) (hi : P.info? t.T = some i) (hz : i.zero = some z)
  (hsize : i.size = t.k) (hby : i.bytes = bytes) (hzs : z.cells.size = t.k) (hk : 0 < t.k) (hx : a.eval x = t.v)
  (ad : Addr) (m c : Nat) (news : List Value) (hy : a.eval y = .slice (some ad) m c) (hl : news.length = m * t.k) (hnews : ∀ j u,news[j]? = some u → w.cell? (ad.add j) = some u) (h1 : ∀ u ∈ news,u.oneCell' = true)
  (hm : t.m = t.n + m) (hys : t.ys = t.xs ++ news) (hn : t.n + m ≤ 4294967296) (hbytes : bytes ≤ 4096) (hB : t.B ≤ W0.heap.size) :
  OpV P o a.eval w fun v w' => RowsJ W0 ts (L.setIfInBounds t.i true) (a.put o.dst v) w' ∧ RowsE W0 w w':=by
 have hown : w.ownsRow t.B t.T t.k t.v t.n t.xs:=by
  have:=h.own t ht
  unfold RowT.own at this
  rw [hlist] at this
  exact this
 obtain ⟨v',w',hrun,o1,g1,-,at1⟩:=run_append_own_at (P:=P) w t.B ty o.type t.T i z t.k bytes hty hi hz hsize hby hzs hk t.v t.n t.xs hown ad m c news hl hnews h1 (by simp only [maxLen]; omega) (by
   have : (t.n + m) * bytes ≤ 4294967296 * 4096:=Nat.mul_le_mul hn hbytes
   omega) (Nat.le_trans hB h.size)
 refine OpV.append x y ty _ _ v' hop hx hy hrun ?_
 rw [hd]
 exact h.put ht rfl hlist hsz hs hother v' (by rw [hm,hys]; exact o1) g1 at1 hnd hlt
theorem RowsJ.app {P : Program} {o : Oper} (h : RowsJ W0 ts L a w) {t : RowT} (ht : t ∈ ts) (hd : o.dst = some t.s) (hlist : L.getD t.i false = false) (hsz : t.i < L.size) (hs : t.s < a.tmps.size)
  (hother : ∀ u ∈ ts,u ≠ t → u.i ≠ t.i ∧ u.s ≠ t.s) (hnd : ts.Nodup) (hlt : ∀ g,t.v.ownBlock = some g → g < W0.heap.size)
  (x y : Operand) (ty : TypeId) (hop : o.op = .call { callee:=.builtin .append,args:=#[x,y],argTypes:=#[ty,ty] })
  (i : TypeInfo) (z : Value) (bytes : Nat) (hty : P.underlying ty = some (.slice t.T)) (hi : P.info? t.T = some i) (hz : i.zero = some z)
  (hsize : i.size = t.k) (hby : i.bytes = bytes) (hzs : z.cells.size = t.k) (hk : 0 < t.k) (hx : a.eval x = t.v)
  (b : Nat) (cs : Array Value) (T' : TypeId) (hy : a.eval y = .slice (some ⟨b,0,none⟩) 1 1) (hb : w.heap[b]? = some (.cells cs T' (0,0))) (hcs : cs.size = t.k) (h1 : ∀ u ∈ cs.toList,u.oneCell' = true)
  (hm : t.m = t.n + 1) (hys : t.ys = t.xs ++ cs.toList) (hn : t.n ≤ 4294967296) (hbytes : bytes ≤ 4096) (hB : t.B ≤ W0.heap.size) :
  OpV P o a.eval w fun v w' => RowsJ W0 ts (L.setIfInBounds t.i true) (a.put o.dst v) w' ∧ RowsE W0 w w':=by
 have hown : w.ownsRow t.B t.T t.k t.v t.n t.xs:=by
  have:=h.own t ht
  unfold RowT.own at this
  rw [hlist] at this
  exact this
 obtain ⟨v',w',hrun,o1,g1,-,at1⟩:=run_append_own_at (P:=P) w t.B ty o.type t.T i z t.k bytes hty hi hz hsize hby hzs hk t.v t.n t.xs hown ⟨b,0,none⟩ 1 1 cs.toList (by simpa using hcs) (fun j u hu => by
   rw [Addr.add_lit]
   simp only [World.cell?,hb]
   simp at hu ⊢
   exact hu) h1 (by simp only [maxLen]; omega) (by
   have : (t.n + 1) * bytes ≤ 4294967297 * 4096:=Nat.mul_le_mul (by omega) hbytes
   omega) (Nat.le_trans hB h.size)
 refine OpV.append x y ty _ _ v' hop hx hy hrun ?_
 rw [hd]
 exact h.put ht rfl hlist hsz hs hother v' (by rw [hm,hys]; exact o1) g1 at1 hnd hlt
end
theorem rows_ne {ts : List RowT} {li ls : List Nat} (hI : ts.map RowT.i = li) (hS : ts.map RowT.s = ls) {i d : Nat} (hi : i ∉ li) (hd : d ∉ ls) : ∀ t ∈ ts,t.i ≠ i ∧ t.s ≠ d:=fun t ht =>
 ⟨fun e => hi (by rw [← hI,← e]; exact List.mem_map_of_mem ht),fun e => hd (by rw [← hS,← e]; exact List.mem_map_of_mem ht)⟩
theorem nodup_map_ne {α : Type} {f : α → Nat} {l : List α} (h : (l.map f).Nodup) {x y : α} (hx : x ∈ l) (hy : y ∈ l) (hne : x ≠ y) : f x ≠ f y:=by
 induction l with
 | nil => cases hx
 | cons a l ih =>
  rw [List.map_cons,List.nodup_cons] at h
  rcases List.mem_cons.1 hx with e | hx'
  ·rcases List.mem_cons.1 hy with e' | hy'
   ·exact absurd (e.trans e'.symm) hne
   ·intro c; apply h.1; rw [← e,c]; exact List.mem_map_of_mem hy'
  ·rcases List.mem_cons.1 hy with e' | hy'
   ·intro c; apply h.1; rw [← e',← c]; exact List.mem_map_of_mem hx'
   ·exact ih h.2 hx' hy'
theorem nodup_of_map {α : Type} {f : α → Nat} {l : List α} (h : (l.map f).Nodup) : l.Nodup:=by
 induction l with
 | nil => exact List.nodup_nil
 | cons a l ih =>
  rw [List.map_cons,List.nodup_cons] at h
  exact List.nodup_cons.2 ⟨fun c => h.1 (List.mem_map_of_mem c),ih h.2⟩
theorem rows_other {ts : List RowT} {li ls : List Nat} (hI : ts.map RowT.i = li) (hS : ts.map RowT.s = ls) (h1 : li.Nodup) (h2 : ls.Nodup) {t : RowT} (ht : t ∈ ts) : ∀ u ∈ ts,u ≠ t → u.i ≠ t.i ∧ u.s ≠ t.s:=fun u hu hne =>
 ⟨nodup_map_ne (by rw [hI]; exact h1) hu ht hne,nodup_map_ne (by rw [hS]; exact h2) hu ht hne⟩
theorem slotv {a : Act} {s : Nat} {v : Value} (h : a.tmps.getD s undef = v) : a.tmps[s]?.getD undef = v:=by rw [← Array.getD_eq_getD_getElem?]; exact h
def TmpS (S : Nat) (v : Value) (cs : Array Value) (T : TypeId) (w : World) : Prop:=∃ b,v = .slice (some ⟨b,0,none⟩) 1 1 ∧ S ≤ b ∧ w.heap[b]? = some (.cells cs T (0,0))
theorem TmpS.mono {W0 w w' : World} {v : Value} {cs : Array Value} {T : TypeId} (e : RowsE W0 w w') (h : TmpS W0.heap.size v cs T w) : TmpS W0.heap.size v cs T w':=by
 obtain ⟨b,h1,h2,h3⟩:=h
 exact ⟨b,h1,h2,(e.2 b h2 (lt_of_heap h3)).trans h3⟩
theorem RowsJ.inn {W0 w : World} {ts : List RowT} {L : Array Bool} {a : Act} {H : Frz} (h : RowsJ W0 ts L a w) (hH : H.In W0) (hn : ∀ t ∈ ts,∀ g,t.v.ownBlock = some g → H g = none) : H.In w:=fun b o e => by
 refine (h.keep b (hH.lt e) (fun t ht c => ?_)).trans (hH b o e)
 rw [hn t ht b c] at e
 cases e
theorem RowsJ.below {W0 w : World} {ts : List RowT} {L : Array Bool} {a : Act} {B : Nat} (h : RowsJ W0 ts L a w) (hB : B ≤ W0.heap.size) (hn : ∀ t ∈ ts,∀ g,t.v.ownBlock = some g → B ≤ g) : Below B W0 w :=
 ⟨h.os,h.tape,h.output,h.size,fun b hb => h.keep b (by omega) (fun t ht c => by have:=hn t ht b c; omega)⟩
theorem ready_not {l : Array Oper} {L : Array Bool} {i : Nat} (h : i ∈ Region.ready .any l L) (hs : i < L.size) : L.getD i false = false:=by
 have:=(mem_ready.1 h).1
 simp [hs] at this ⊢
 exact this
open Go.RowKit
def heldR (v : Value) : Option (DataW Value × List MemPlace):=some (.held v,[])
def Mp (P : Program) (k : TypeId) (w : World) (b n : Nat) (m : Lit → Option Value) : Prop :=
 ∃ D : DataW Value,w.ownsMap P k heldR b n D ∧ ∀ l,WideAt.IsKeyLit l → Maps.has D l = (m l).isSome ∧ ∀ v,m l = some v → ∀ z,D.atKey l z = .held v
def mpSet (m : Lit → Option Value) (l : Lit) (v : Value) : Lit → Option Value:=fun x => if x.sameKey l then some v else m x
def mpDel (m : Lit → Option Value) (l : Lit) : Lit → Option Value:=fun x => if x.sameKey l then none else m x
def mpNew : Lit → Option Value:=fun _ => none
section
variable {P : Program} {k e t : TypeId} {w w' : World} {b n : Nat} {m : Lit → Option Value} {key : Value} {kl : Lit}
theorem Mp.made (P : Program) (k : TypeId) (w : World) : Mp P k (w.alloc (.map #[] 0)) w.heap.size 0 mpNew :=
 ⟨_,World.ownsMap_made w P k heldR,fun l _ => ⟨rfl,fun v h => by cases h⟩⟩
theorem Mp.mono {n' : Nat} (h : Mp P k w b n m) (hn : n ≤ n') : Mp P k w b n' m:=by
 obtain ⟨D,ho,hd⟩:=h
 exact ⟨D,ho.mono hn,hd⟩
theorem Mp.lt (h : Mp P k w b n m) : b < w.heap.size:=by
 obtain ⟨D,ho,hd⟩:=h
 exact ho.lt
theorem Mp.kept {row : Option Nat} (h : Mp P k w b n m) (hg : w.grownBy w' row) (hne : some b ≠ row) : Mp P k w' b n m:=by
 obtain ⟨D,ho,hd⟩:=h
 exact ⟨D,ho.kept hg hne,hd⟩
theorem Mp.below (h : Mp P k w b n m) (hb : Below w.heap.size w w') : Mp P k w' b n m :=
 h.kept (row:=none) ⟨hb.os,hb.tape,hb.output,hb.size,fun i hi _ => hb.block i hi⟩ (by simp)
theorem Mp.block (h : Mp P k w b n m) (hb : w'.heap[b]? = w.heap[b]?) : Mp P k w' b n m:=by
 obtain ⟨D,⟨es,clock,h1,h2⟩,hd⟩:=h
 exact ⟨D,⟨es,clock,hb.trans h1,h2⟩,hd⟩
theorem Mp.alloc (h : Mp P k w b n m) (o : Obj) : Mp P k (w.alloc o) b n m:=h.below ((Below.refl _ _).alloc (Nat.le_refl _) _)
theorem Mp.setCell (h : Mp P k w b n m) {a : Addr} (ha : b ≠ a.block) (u : Value) : Mp P k (w.setCell a u) b n m:=by
 obtain ⟨D,ho,hd⟩:=h
 exact ⟨D,ho.setCell ha u,hd⟩
theorem Mp.obj (h : Mp P k w b n m) : ∃ o,w.heap[b]? = some o ∧ ∀ w' : World,w'.heap[b]? = some o → Mp P k w' b n m:=by
 obtain ⟨D,⟨es,clock,h1,h2⟩,hd⟩:=h
 exact ⟨_,h1,fun w' h' => ⟨D,⟨es,clock,h',h2⟩,hd⟩⟩
theorem Mp.look_some (h : Mp P k w b n m) (K : Maps.Keyed P k) (ht : P.underlying t = some (.map k e)) {z : Value} (hz : (zeroValue e).run P w = .ok z w) (hkey : keyOf P k key = some kl) {v : Value} (hv : m kl = some v) (c : Bool) :
  (Instr.lookup t (.map (some b)) key c).run P w = .ok (if c then .tuple #[v,.bool true] else v) w:=by
 obtain ⟨D,⟨es,clock,hb,F,_,rfl⟩,hd⟩:=h
 have hk : WideAt.IsKeyLit kl:=K.key hkey
 obtain ⟨h1,h2⟩:=hd kl hk
 rcases Maps.fit_look c K ht hz hb F hkey with ⟨hrun,_,hat⟩ | ⟨e0,y,_,_,hrun,hRv,hat,_⟩
 ·rw [Maps.has_false_of_atKey hat,hv] at h1
  cases h1
 ·have:=h2 v hv (.held v)
  rw [hat] at this
  unfold heldR at hRv
  injection hRv with hRv
  rw [← hRv] at this
  injection this with this
  rw [← this]
  exact hrun
theorem Mp.look_none (h : Mp P k w b n m) (K : Maps.Keyed P k) (ht : P.underlying t = some (.map k e)) {z : Value} (hz : (zeroValue e).run P w = .ok z w) (hkey : keyOf P k key = some kl) (hv : m kl = none) (c : Bool) :
  (Instr.lookup t (.map (some b)) key c).run P w = .ok (if c then .tuple #[z,.bool false] else z) w:=by
 obtain ⟨D,⟨es,clock,hb,F,_,rfl⟩,hd⟩:=h
 have hk : WideAt.IsKeyLit kl:=K.key hkey
 obtain ⟨h1,h2⟩:=hd kl hk
 rcases Maps.fit_look c K ht hz hb F hkey with ⟨hrun,_,hat⟩ | ⟨e0,y,_,_,hrun,hRv,hat,_⟩
 ·exact hrun
 ·rw [Maps.has_true_of_atKey hat,hv] at h1
  cases h1
theorem Mp.look (h : Mp P k w b n m) (K : Maps.Keyed P k) (ht : P.underlying t = some (.map k e)) {z : Value} (hz : (zeroValue e).run P w = .ok z w) (hkey : keyOf P k key = some kl) (c : Bool) :
  (Instr.lookup t (.map (some b)) key c).run P w = .ok (if c then .tuple #[(m kl).getD z,.bool (m kl).isSome] else (m kl).getD z) w:=by
 cases hv : m kl with
 | none => exact h.look_none K ht hz hkey hv c
 | some v => exact h.look_some K ht hz hkey hv c
theorem Mp.update (h : Mp P k w b n m) (K : Maps.Keyed P k) (ht : P.underlying t = some (.map k e)) (hn : n < maxLen) (hkey : keyOf P k key = some kl) (val : Value) :
  ∃ w',(Instr.mapUpdate t (.map (some b)) key val).run P w = .ok () w' ∧ Mp P k w' b (n + 1) (mpSet m kl val) ∧ w.grownBy w' (some b) ∧ w'.heap.size = w.heap.size:=by
 obtain ⟨D,ho,hd⟩:=h
 have hk : WideAt.IsKeyLit kl:=K.key hkey
 obtain ⟨w',hrun,ho',ht'⟩:=ho.store K ht hn hkey (show heldR val = some (.held val,[]) from rfl)
 refine ⟨w',hrun,⟨_,ho',fun l hl => ?_⟩,ht'.grown,?_⟩
 ·by_cases hs : l = kl
  ·subst hs
   have e1 : mpSet m l val l = some val:=by unfold mpSet; rw [WideAt.sameKey_self hk]; rfl
   rw [e1]
   refine ⟨by rw [Maps.has_put_same ho.isMap hk]; rfl,fun v hv z => ?_⟩
   injection hv with hv
   rw [Maps.atKey_put_same ho.isMap hk,hv]
  ·have e1 : mpSet m kl val l = m l:=by
    unfold mpSet
    rw [if_neg]
    intro c
    exact hs (WideAt.sameKey_eq c)
   rw [e1,Maps.has_put_other hs]
   refine ⟨(hd l hl).1,fun v hv z => ?_⟩
   rw [Maps.atKey_put_other hs]
   exact (hd l hl).2 v hv z
 ·obtain ⟨es,clock,es',clock',hb,rfl⟩:=ht'
  simp [ChangeMaps.setBlock]
theorem Mp.drop (h : Mp P k w b n m) (K : Maps.Keyed P k) (ht : P.underlying t = some (.map k e)) (hkey : keyOf P k key = some kl) (ty : TypeId) :
  ∃ w',(Builtin.delete_ #[t,k] ty #[.map (some b),key]).run P w = .ok (.tuple #[]) w' ∧ Mp P k w' b n (mpDel m kl) ∧ w.grownBy w' (some b) ∧ w'.heap.size = w.heap.size:=by
 obtain ⟨D,ho,hd⟩:=h
 have hk : WideAt.IsKeyLit kl:=K.key hkey
 obtain ⟨w',hrun,ho',ht'⟩:=ho.drop K ht hkey ty
 refine ⟨w',hrun,⟨_,ho',fun l hl => ?_⟩,ht'.grown,?_⟩
 ·by_cases hs : l = kl
  ·subst hs
   have e1 : mpDel m l l = none:=by unfold mpDel; rw [WideAt.sameKey_self hk]; rfl
   rw [e1]
   exact ⟨by rw [Maps.has_del_same]; rfl,fun v hv z => by cases hv⟩
  ·have e1 : mpDel m kl l = m l:=by
    unfold mpDel
    rw [if_neg]
    intro c
    exact hs (WideAt.sameKey_eq c)
   rw [e1,Maps.has_del_other hs]
   refine ⟨(hd l hl).1,fun v hv z => ?_⟩
   rw [Maps.atKey_del_other hs]
   exact (hd l hl).2 v hv z
 ·obtain ⟨es,clock,es',clock',hb,rfl⟩:=ht'
  simp [ChangeMaps.setBlock]
end
theorem wpList_mp_set {P : Program} (w : World) {ops : Array Oper} {rest : List Oper} {o : Oper} {a : Act} {Q : Exit → Act → World → Prop}
  (hg : o.guard = none) (mo x v : Operand) (t : TypeId) (hop : o.op = Op.mapUpdate t mo x v)
  (k e : TypeId) (K : Maps.Keyed P k) (ht : P.underlying t = some (.map k e)) (b n : Nat) (m : Lit → Option Value)
  (hm : a.eval mo = .map (some b)) (hown : Mp P k w b n m) (hn : n < maxLen) (key val : Value) (kl : Lit) (hx : a.eval x = key) (hv : a.eval v = val) (hkey : keyOf P k key = some kl)
  (hK : ∀ w',Mp P k w' b (n + 1) (mpSet m kl val) → w.grownBy w' (some b) → w'.heap.size = w.heap.size → wpList P ops Q rest (a.put o.dst undef) w') :
  wpList P ops Q (o :: rest) a w:=by
 refine wpList_plain hg fun K' hK' => ?_
 obtain ⟨w',hrun,r1,r2,r3⟩:=hown.update K ht hn hkey val
 unfold Oper.wp
 simp [execOp,hop,hm,hx,hv,hrun,Result.andThen]
 exact hK' _ _ (hK w' r1 r2 r3)
theorem wpList_mp_ok {P : Program} (w : World) {ops : Array Oper} {rest : List Oper} {o : Oper} {a : Act} {Q : Exit → Act → World → Prop}
  (hg : o.guard = none) (mo x : Operand) (t : TypeId) (hop : o.op = Op.lookup t mo x true)
  (k e : TypeId) (K : Maps.Keyed P k) (ht : P.underlying t = some (.map k e)) (z : Value) (hz : (zeroValue e).run P w = .ok z w) (b n : Nat) (m : Lit → Option Value)
  (hm : a.eval mo = .map (some b)) (hown : Mp P k w b n m) (key : Value) (kl : Lit) (hx : a.eval x = key) (hkey : keyOf P k key = some kl)
  (hK : wpList P ops Q rest (a.put o.dst (.tuple #[(m kl).getD z,.bool (m kl).isSome])) w) :
  wpList P ops Q (o :: rest) a w:=by
 refine wpList_plain hg fun K' hK' => ?_
 have hrun:=hown.look K ht hz hkey true
 unfold Oper.wp
 simp [execOp,hop,hm,hx,hrun,Result.andThen]
 exact hK' _ _ hK
open Go.RowKit Go.ChangeMaps
section
variable {P : Program} {k e t : TypeId} {w w' : World} {b n : Nat} {m : Lit → Option Value} {key : Value} {kl : Lit}
theorem grown_setBlock (w : World) (b : Nat) (o : Obj) : w.grownBy (setBlock w b o) (some b):=by
 refine ⟨rfl,rfl,rfl,by simp [setBlock],fun i hi hne => ?_⟩
 have : i ≠ b:=fun c => hne (by rw [c])
 simp [setBlock,this.symm]
theorem setBlock_at {w : World} {b : Nat} (o : Obj) (h : b < w.heap.size) : (setBlock w b o).heap[b]? = some o:=by
 simp [setBlock,h]
theorem Mp.entry (h : Mp P k w b n m) (K : WideMaps.KeyLaw P k) (ht : P.underlying t = some (.map k e)) {z : Value} (hz : ∀ u : World,(zeroValue e).run P u = .ok z u) (hn : n < maxLen) (hkey : keyOf P k key = some kl) :
  ∃ (st : Nat) (es1 : Array MapEntry) (clock1 : Nat),(Instr.mapEntry t (.map (some b)) key).run P w = .ok (.tuple #[(m kl).getD z,goInt st]) (setBlock w b (.map es1 clock1)) ∧
   ∀ (w2 : World) (val : Value),w2.heap[b]? = some (.map es1 clock1) → ∃ w3,(Instr.entryStore t (.map (some b)) (goInt st) val).run P w2 = .ok () w3 ∧ Mp P k w3 b (n + 1) (mpSet m kl val) ∧ w2.grownBy w3 (some b) ∧ w3.heap.size = w2.heap.size:=by
 have hK:=Maps.Keyed.of_law K
 obtain ⟨D,⟨es,clock,hb,F,hsz,rfl⟩,hd⟩:=id h
 obtain ⟨v0,st,es1,clock1,h1,h2,h3⟩:=WideElems.entry_then_store K ht hz hb F hkey
 have hl:=h.look hK ht (hz w) hkey false
 have hv0 : v0 = (m kl).getD z:=by
  rcases Maps.fit_look false hK ht (hz w) hb F hkey with ⟨hrun,hno,_⟩ | ⟨e0,y,he0,hk0,hrun,_⟩
  ·rcases h2 with ⟨e1,he1,hk1,_⟩ | ⟨_,hv⟩
   ·exact absurd hk1 (hno e1 he1)
   ·rw [hrun] at hl
    simp at hl
    rw [hv]; exact hl
  ·rcases h2 with ⟨e1,he1,hk1,hv⟩ | ⟨hno,_⟩
   ·have hp : es.toList.Pairwise (fun x y => x.key ≠ y.key):=((MapKept.stamped_iff es clock).1 F.stamped).2.2
    have e01 : e0 = e1:=by
     obtain ⟨i,hi,ei⟩:=List.getElem_of_mem he0
     obtain ⟨j,hj,ej⟩:=List.getElem_of_mem he1
     rcases Nat.lt_trichotomy i j with c | c | c
     ·have:=List.pairwise_iff_getElem.1 hp i j hi hj c
      rw [ei,ej,hk0,hk1] at this
      exact absurd rfl this
     ·subst c; rw [← ei,← ej]
     ·have:=List.pairwise_iff_getElem.1 hp j i hj hi c
      rw [ei,ej,hk0,hk1] at this
      exact absurd rfl this
    rw [hrun] at hl
    simp at hl
    rw [hv,← e01]; exact hl
   ·exact absurd hk0 (hno e0 he0)
 subst hv0
 refine ⟨st,es1,clock1,h1,fun w2 val hw2 => ?_⟩
 obtain ⟨es',clock',h4,h5⟩:=h3 w2 val hw2
 obtain ⟨wu,hu,r1,r2,r3⟩:=h.update hK ht hn hkey val
 rw [h5] at hu
 injection hu with _ hu
 subst hu
 refine ⟨_,h4,?_,grown_setBlock _ _ _,by simp [setBlock]⟩
 refine r1.block ?_
 rw [setBlock_at _ (lt_of_heap hw2),setBlock_at _ (lt_of_heap hb)]
end
open Go.RowKit
structure IdD where
 kind : Int
 text : ByteArray
def fId (d : IdD) : Nat → Value
 | 0 => .int .i64 d.kind
 | _ => .string d.text
open Go.RowKit
def eqId (a b : IdD) : Bool:=decide (a.kind = b.kind) && eqS a.text b.text
theorem eqId_iff {a b : IdD} : eqId a b = true ↔ a = b:=by
 unfold eqId
 rw [Bool.and_eq_true,eqS_iff]
 constructor
 ·rintro ⟨h1,h2⟩
  have h1:=of_decide_eq_true h1
  cases a; cases b; simp_all
 ·rintro rfl; simp
theorem eqId_self (a : IdD) : eqId a a = true:=eqId_iff.2 rfl
end Go.Proofs.YtbidhpgjmcedaaaGreatDoor
