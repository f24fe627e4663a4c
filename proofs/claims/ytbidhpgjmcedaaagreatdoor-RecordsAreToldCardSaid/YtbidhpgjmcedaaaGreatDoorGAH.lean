/- Texts of this claim, put together: Orow, FI, Tab, UfP, PutR, FindC. -/
import Derived.Test.YtbidhpgjmcedaaaGreatDoorGAG
import Derived.Test.YtbidhpgjmcedaaaGreatDoorGAB
import Derived.Test.YtbidhpgjmcedaaaGreatDoorGAE
import Derived.Lib.Hide
import Derived.StillTailTactics
import Derived.Deep.Cut
namespace Go.Proofs.YtbidhpgjmcedaaaGreatDoor
set_option linter.unusedVariables false
open Go.RowKit
section
variable {D : Type} {w : World} {g T k B : Nat} {f : D → Nat → Value} {ds : List D} {rest : List Value} {v : Value}
theorem cellsOf_set (i j : Nat) (hi : i < ds.length) (hj : j < k) {d' : D} {x : Value} (hx : f d' j = x) (ho : ∀ m,m < k → m ≠ j → f d' m = f ds[i] m) : (cellsOf k f ds).set (i * k + j) x = cellsOf k f (ds.set i d'):=by
 have e1 : ds.set i d' = ds.take i ++ d' :: ds.drop (i + 1):=List.set_eq_take_append_cons_drop .. |>.trans (by rw [if_pos hi])
 have l1 : (cellsOf k f (ds.take i)).length = i * k:=by rw [cellsOf_len,List.length_take]; congr 1; omega
 have e3 : cellsOf k f ds = cellsOf k f (ds.take i) ++ ((List.range k).map (f ds[i]) ++ cellsOf k f (ds.drop (i + 1))):=by
  have h3 : cellsOf k f ds = cellsOf k f (ds.take i ++ ds.drop i):=by rw [List.take_append_drop]
  rw [h3,cellsOf_split]
  congr 1
  rw [List.drop_eq_getElem_cons hi]
  rfl
 have e4 : cellsOf k f (ds.take i ++ d' :: ds.drop (i + 1)) = cellsOf k f (ds.take i) ++ ((List.range k).map (f d') ++ cellsOf k f (ds.drop (i + 1))):=by
  rw [cellsOf_split]
  rfl
 rw [e1,e4,e3,List.set_append_right _ _ (by rw [l1]; omega),l1,show i * k + j - i * k = j from by omega,List.set_append_left _ _ (by simpa using hj)]
 congr 2
 apply List.ext_getElem
 ·simp
 ·intro n h1 h2
  simp at h1 h2
  by_cases e : n = j
  ·subst e; simp [hx]
  ·rw [List.getElem_set_ne (by omega)]
   simp
   exact (ho n h1 e).symm
theorem KBlk.upd (h : KBlk w g T k f ds rest) (i j : Nat) (hi : i < ds.length) (hj : j < k) {d' : D} {x : Value} (hx : f d' j = x) (ho : ∀ m,m < k → m ≠ j → f d' m = f ds[i] m) : KBlk (w.setCell ⟨g,i * k + j,none⟩ x) g T k f (ds.set i d') rest:=by
 unfold KBlk at h ⊢
 have hlt:=(List.getElem?_eq_some_iff.1 (cellsOf_get k f ds i j hi hj)).1
 simp only [World.setCell,Array.getElem?_modify,h]
 simp [List.set_append_left _ _ hlt,cellsOf_set i j hi hj hx ho]
theorem Orow.form (h : Orow w B T k f v ds) (hne : ds ≠ []) : ∃ g cap rest,v = .slice (some ⟨g,0,none⟩) ds.length cap ∧ ds.length ≤ cap ∧ B ≤ g ∧ g < w.heap.size ∧ cap ≤ maxLen ∧ KBlk w g T k f ds rest ∧ rest.length = cap * k - ds.length * k:=by
 rcases h.2 with ⟨_,hl⟩ | ⟨g,cap,cur,hv,hB,hh,hle,hm,hs,ht⟩
 ·exact absurd (List.eq_nil_of_length_eq_zero hl) hne
 ·refine ⟨g,cap,cur.toList.drop (ds.length * k),hv,hle,hB,lt_of_heap hh,hm,?_,by simp [hs]⟩
  unfold KBlk
  rw [← ht,List.take_append_drop]
  exact hh
theorem Orow.of_blk {cap : Nat} (h : KBlk w g T k f ds rest) (hB : B ≤ g) (hm : cap ≤ maxLen) (hle : ds.length ≤ cap) (hr : rest.length = cap * k - ds.length * k) : Orow w B T k f (.slice (some ⟨g,0,none⟩) ds.length cap) ds:=by
 refine ⟨by rw [cellsOf_len],Or.inr ⟨g,cap,_,rfl,hB,h,hle,hm,?_,?_⟩⟩
 ·have:=Nat.mul_le_mul_right k hle
  simp [cellsOf_len,hr]; omega
 ·simp
  rw [List.take_left' (by rw [cellsOf_len])]
theorem Orow.freezeN (h : Orow w B T k f v ds) (H : Frz) :
  ∃ (A : Option Addr) (cap : Nat) (H' : Frz),v = .slice A ds.length cap ∧ ds.length ≤ cap ∧ (H.In w → H'.In w) ∧ ((∀ g,v.ownBlock = some g → H g = none) → H.Le H') ∧ Rw H' A k f ds ∧ (∀ b,v.ownBlock ≠ some b → H' b = H b):=by
 rcases h.2 with ⟨rfl,hn⟩ | ⟨g,cap,cur,rfl,hB,hh,hle,hm,hs,ht⟩
 ·have : ds = []:=List.eq_nil_of_length_eq_zero hn
  subst this
  exact ⟨none,0,H,rfl,Nat.le_refl _,id,fun _ => Frz.Le.refl _,Rw.nil,fun _ _ => rfl⟩
 ·refine ⟨some ⟨g,0,none⟩,cap,H.add g (.cells cur T (0,0)),rfl,hle,fun hI => hI.add hh,fun hN => Frz.le_add (hN g rfl),?_,fun b hb => Frz.add_other (fun e => hb (by rw [e]; rfl))⟩
  intro i hi
  refine ⟨g,0,rfl,fun j hj => ?_⟩
  have hx:=cellsOf_get k f ds i j hi hj
  rw [← ht] at hx
  have hlt : i * k + j < ds.length * k:=by
   have : (i + 1) * k ≤ ds.length * k:=Nat.mul_le_mul_right _ hi
   rw [Nat.succ_mul] at this; omega
  rw [List.getElem?_take_of_lt hlt] at hx
  unfold Frz.cell?
  rw [show (⟨g,0 + i * k + j,none⟩ : Addr).block = g from rfl,Frz.add_at]
  simpa using hx
theorem KBlk.cell1 (h : KBlk w g T 1 f ds rest) (i : Nat) (hi : i < ds.length) : w.cell? ⟨g,i,none⟩ = some (f ds[i] 0):=by simpa using h.cell i 0 hi (by omega)
theorem KBlk.set1 (h : KBlk w g T 1 f ds rest) (i : Nat) (hi : i < ds.length) (d' : D) : KBlk (w.setCell ⟨g,i,none⟩ (f d' 0)) g T 1 f (ds.set i d') rest:=by
 have:=h.upd i 0 hi (by omega) (d':=d') rfl (fun m hm hne => absurd hm (by omega))
 simpa using this
theorem KBlk.other (h : KBlk w g T k f ds rest) {a : Addr} (hne : a.block ≠ g) (u : Value) : KBlk (w.setCell a u) g T k f ds rest :=
 (Below.heap_setCell w a u g (fun e => hne e.symm)).trans h
end
open Go.RowKit
def fI (z : Int) (_ : Nat) : Value:=.int .i64 z
theorem cellsOf_fI (zs : List Int) : cellsOf 1 fI zs = zs.map (Value.int .i64):=by
 unfold cellsOf
 induction zs with
 | nil => rfl
 | cons z zs ih => rw [List.flatMap_cons,ih]; rfl
open Go.RowKit
def tab (n : Nat) (F : Nat → Int) : List Int:=(List.range n).map F
theorem tab_len (n : Nat) (F : Nat → Int) : (tab n F).length = n:=by simp [tab]
theorem tab_get {n : Nat} {F : Nat → Int} {i : Nat} (h : i < (tab n F).length) : (tab n F)[i] = F i:=by simp [tab]
theorem tab_get? {n : Nat} {F : Nat → Int} {i : Nat} (h : i < n) : (tab n F)[i]? = some (F i):=by simp [tab,h]
theorem tab_congr {n : Nat} {F G : Nat → Int} (h : ∀ k,k < n → F k = G k) : tab n F = tab n G:=by
 unfold tab
 exact List.map_congr_left fun k hk => h k (List.mem_range.1 hk)
theorem tab_set {n : Nat} {F : Nat → Int} {i : Nat} (x : Int) : (tab n F).set i x = tab n fun k => if k = i then x else F k:=by
 apply List.ext_getElem?
 intro k
 rw [List.getElem?_set]
 by_cases h : k < n
 ·have e1:=tab_get? (F:=F) h
  have e2:=tab_get? (F:=fun k => if k = i then x else F k) h
  rw [e1,e2,tab_len]
  by_cases e : i = k
  ·subst e
   simp [h]
  ·simp [e,show ¬ k = i from fun c => e c.symm]
 ·have e1 : (tab n F)[k]? = none:=List.getElem?_eq_none (by rw [tab_len]; omega)
  have e2 : (tab n fun k => if k = i then x else F k)[k]? = none:=List.getElem?_eq_none (by rw [tab_len]; omega)
  rw [e1,e2,tab_len]
  by_cases e : i = k
  ·subst e
   simp [h]
  ·simp [e]
theorem made_ints {w : World} {B g n : Nat} (h : w.ownsRow B 3 1 (.slice (some ⟨g,0,none⟩) n n) n (madeCells (Value.int .i64 0).cells (n * 1)).toList) : KBlk w g 3 1 fI (tab n fun _ => 0) []:=by
 rcases h.2 with ⟨h1,_⟩ | ⟨g',cap,cur,hv,hB,hh,hle,hm,hs,ht⟩
 ·cases h1
 ·injection hv with e1 e2 e3
  injection e1 with e1
  injection e1 with e1
  subst e1 e3
  unfold KBlk
  rw [hh]
  have h2 : cur.toList = (madeCells (Value.int .i64 0).cells (n * 1)).toList:=by
   rw [← ht,List.take_of_length_le (by simp [hs])]
  have h3 : (madeCells (Value.int .i64 0).cells (n * 1)).toList = List.replicate (n * 1) (.int .i64 0):=toList_madeCells_one _ _
  rw [h3] at h2
  have h4 : cellsOf 1 fI (tab n fun _ => 0) = List.replicate (n * 1) (.int .i64 0):=by
   rw [cellsOf_fI,Nat.mul_one]
   apply List.ext_getElem?
   intro k
   by_cases hk : k < n
   ·simp [tab,hk]
   ·rw [List.getElem?_eq_none (by simp [tab]; omega),List.getElem?_eq_none (by simp; omega)]
  rw [h4,List.append_nil,← h2]
structure TabS (H : Frz) (w : World) (g n : Nat) (F : Nat → Int) (W : World) : Prop where
 inn : H.In W
 bel : Below w.heap.size w W
 blk : KBlk W g 3 1 fI (tab n F) []
 ge : w.heap.size ≤ g
 no : H g = none
section
variable {H : Frz} {w W W' : World} {g n : Nat} {F G : Nat → Int}
theorem TabS.cell (h : TabS H w g n F W) (i : Nat) (hi : i < n) : W.cell? ⟨g,i,none⟩ = some (.int .i64 (F i)):=by
 have:=h.blk.cell1 i (by rw [tab_len]; exact hi)
 rw [tab_get] at this
 exact this
theorem TabS.froz (h : TabS H w g n F W) (i : Nat) : W.frozen? ⟨g,i,none⟩ = false:=h.blk.frozen i
theorem TabS.set (h : TabS H w g n F W) (i : Nat) (hi : i < n) (x : Int) : TabS H w g n (fun k => if k = i then x else F k) (W.setCell ⟨g,i,none⟩ (.int .i64 x)):=by
 have hg:=h.ge
 refine ⟨h.inn.setCell (p:=⟨g,i,none⟩) h.no _,h.bel.setCell (p:=⟨g,i,none⟩) hg _,?_,h.ge,h.no⟩
 have:=h.blk.set1 i (by rw [tab_len]; exact hi) x
 rw [tab_set] at this
 exact this
theorem TabS.congr (h : TabS H w g n F W) (e : ∀ k,k < n → F k = G k) : TabS H w g n G W:=⟨h.inn,h.bel,by have:=h.blk; rw [tab_congr e] at this; exact this,h.ge,h.no⟩
theorem TabS.call (h : TabS H w g n F W) (hb : Below W.heap.size W W') : TabS H w g n F W':=⟨h.inn.below hb,h.bel.trans (hb.mono h.bel.size),h.blk.keep hb,h.ge,h.no⟩
end
def repN (r : List Nat) (i : Nat) : Nat:=if h : r.getD i i < i then repN r (r.getD i i) else i
termination_by i
def Dn (r : List Nat) : Prop:=∀ i,r.getD i i ≤ i
theorem repN_step {r : List Nat} {i : Nat} (h : r.getD i i < i) : repN r i = repN r (r.getD i i):=by
 rw [repN,dif_pos h]
theorem repN_root {r : List Nat} (hd : Dn r) {i : Nat} (h : r.getD i i = i) : repN r i = i:=by
 rw [repN,dif_neg (by omega)]
theorem repN_go {r : List Nat} (hd : Dn r) (i : Nat) : repN r i = repN r (r.getD i i):=by
 by_cases h : r.getD i i < i
 ·exact repN_step h
 ·have:=hd i
  rw [show r.getD i i = i by omega]
theorem repN_le (r : List Nat) : ∀ i,repN r i ≤ i:=by
 intro i
 induction i using Nat.strongRecOn with
 | _ i ih =>
  by_cases h : r.getD i i < i
  ·rw [repN_step h]
   exact Nat.le_trans (ih _ h) (Nat.le_of_lt h)
  ·rw [repN,dif_neg h]
   exact Nat.le_refl _
theorem repN_fix {r : List Nat} (hd : Dn r) : ∀ i,r.getD (repN r i) (repN r i) = repN r i:=by
 intro i
 induction i using Nat.strongRecOn with
 | _ i ih =>
  by_cases h : r.getD i i < i
  ·rw [repN_step h]
   exact ih _ h
  ·have:=hd i
   rw [repN,dif_neg h]
   omega
theorem repN_idem {r : List Nat} (hd : Dn r) (i : Nat) : repN r (repN r i) = repN r i:=repN_root hd (repN_fix hd i)
theorem getD_set {r : List Nat} {i v : Nat} (hi : i < r.length) (j d : Nat) : (r.set i v).getD j d = if j = i then v else r.getD j d:=by
 rw [List.getD_eq_getElem?_getD,List.getD_eq_getElem?_getD,List.getElem?_set]
 by_cases e : i = j
 ·subst e
  simp [hi]
 ·rw [if_neg e,if_neg (fun c => e c.symm)]
theorem Dn.half {r : List Nat} (hd : Dn r) {i : Nat} (hi : i < r.length) : Dn (r.set i (r.getD (r.getD i i) (r.getD i i))):=by
 intro j
 rw [getD_set hi]
 split
 ·next e =>
  subst e
  exact Nat.le_trans (hd _) (hd _)
 ·exact hd j
theorem repN_half {r : List Nat} (hd : Dn r) {i : Nat} (hi : i < r.length) : ∀ j,repN (r.set i (r.getD (r.getD i i) (r.getD i i))) j = repN r j:=by
 intro j
 have hd':=hd.half hi
 induction j using Nat.strongRecOn with
 | _ j ih =>
  by_cases e : j = i
  ·subst e
   by_cases h : r.getD j j < j
   ·have h2 : r.getD (r.getD j j) (r.getD j j) ≤ r.getD j j:=hd _
    rw [repN_go hd' j,getD_set hi,if_pos rfl,ih _ (by omega),← repN_go hd,← repN_go hd]
   ·have h0:=hd j
    have h1 : r.getD j j = j:=by omega
    rw [repN_root hd h1,repN_root hd']
    rw [getD_set hi,if_pos rfl,h1,h1]
  ·by_cases h : r.getD j j < j
   ·rw [repN_go hd' j,getD_set hi,if_neg e,ih _ h,← repN_go hd]
   ·have h0:=hd j
    have h1 : r.getD j j = j:=by omega
    rw [repN_root hd h1,repN_root hd']
    rw [getD_set hi,if_neg e,h1]
theorem Dn.comp {r : List Nat} (hd : Dn r) {i : Nat} (hi : i < r.length) : Dn (r.set i (repN r i)):=by
 intro j
 rw [getD_set hi]
 split
 ·next e => subst e; exact repN_le r j
 ·exact hd j
theorem repN_comp {r : List Nat} (hd : Dn r) {i : Nat} (hi : i < r.length) : ∀ j,repN (r.set i (repN r i)) j = repN r j:=by
 intro j
 have hd':=hd.comp hi
 induction j using Nat.strongRecOn with
 | _ j ih =>
  by_cases e : j = i
  ·subst e
   by_cases h : repN r j < j
   ·rw [repN_go hd' j,getD_set hi,if_pos rfl,ih _ h,repN_idem hd]
   ·have h0:=repN_le r j
    have h1 : repN r j = j:=by omega
    have h2 : (r.set j (repN r j)).getD j j = j:=by rw [getD_set hi,if_pos rfl,h1]
    rw [repN_root hd' h2,h1]
  ·by_cases h : r.getD j j < j
   ·rw [repN_go hd' j,getD_set hi,if_neg e,ih _ h,← repN_go hd]
   ·have h0:=hd j
    have h1 : r.getD j j = j:=by omega
    rw [repN_root hd h1,repN_root hd']
    rw [getD_set hi,if_neg e,h1]
theorem flat_half {r : List Nat} (hd : Dn r) {i : Nat} (hi : i < r.length) {q : Nat} (hq : r.getD q q = repN r q) : (r.set i (r.getD (r.getD i i) (r.getD i i))).getD q q = repN r q:=by
 rw [getD_set hi]
 split
 ·next e =>
  subst e
  rw [hq]
  exact repN_fix hd q
 ·exact hq
theorem Dn.join {r : List Nat} (hd : Dn r) {a b : Nat} (ha : max a b < r.length) : Dn (r.set (max a b) (min a b)):=by
 intro j
 rw [getD_set ha]
 split
 ·omega
 ·exact hd j
theorem repN_join {r : List Nat} (hd : Dn r) {a b : Nat} (hm : max a b < r.length) (ha : r.getD a a = a) (hb : r.getD b b = b) : ∀ j,repN (r.set (max a b) (min a b)) j = if repN r j = max a b then min a b else repN r j:=by
 intro j
 have hd':=hd.join (a:=a) (b:=b) hm
 have hmin : r.getD (min a b) (min a b) = min a b:=by
  rcases Nat.le_total a b with h | h
  ·rw [Nat.min_eq_left h]; exact ha
  ·rw [Nat.min_eq_right h]; exact hb
 have hmax : r.getD (max a b) (max a b) = max a b:=by
  rcases Nat.le_total a b with h | h
  ·rw [Nat.max_eq_right h]; exact hb
  ·rw [Nat.max_eq_left h]; exact ha
 induction j using Nat.strongRecOn with
 | _ j ih =>
  by_cases e : j = max a b
  ·subst e
   rw [repN_root hd hmax,if_pos rfl,repN_go hd',getD_set hm,if_pos rfl]
   apply repN_root hd'
   rw [getD_set hm]
   split
   ·rfl
   ·exact hmin
  ·by_cases h : r.getD j j < j
   ·rw [repN_go hd' j,getD_set hm,if_neg e,ih _ h,← repN_go hd]
   ·have h0:=hd j
    have h1 : r.getD j j = j:=by omega
    rw [repN_root hd h1,if_neg e,repN_root hd']
    rw [getD_set hm,if_neg e,h1]
inductive Tied (E : Nat → Nat → Prop) : Nat → Nat → Prop
 | refl (i : Nat) : Tied E i i
 | edge {i j : Nat} (h : E i j) : Tied E i j
 | symm {i j : Nat} (h : Tied E i j) : Tied E j i
 | trans {i j k : Nat} (h : Tied E i j) (h' : Tied E j k) : Tied E i k
theorem Tied.mono {E E' : Nat → Nat → Prop} (h : ∀ i j,E i j → E' i j) {i j : Nat} (t : Tied E i j) : Tied E' i j:=by
 induction t with
 | refl i => exact .refl i
 | edge e => exact .edge (h _ _ e)
 | symm _ ih => exact .symm ih
 | trans _ _ ih ih' => exact .trans ih ih'
structure Uf (E : Nat → Nat → Prop) (r : List Nat) : Prop where
 dn : Dn r
 iff : ∀ i j,repN r i = repN r j ↔ Tied E i j
theorem Uf.half {E : Nat → Nat → Prop} {r : List Nat} (h : Uf E r) {i : Nat} (hi : i < r.length) : Uf E (r.set i (r.getD (r.getD i i) (r.getD i i))) :=
 ⟨h.dn.half hi,fun a b => by rw [repN_half h.dn hi,repN_half h.dn hi]; exact h.iff a b⟩
theorem Uf.join {E : Nat → Nat → Prop} {r : List Nat} (h : Uf E r) {x y a b : Nat} (hm : max a b < r.length) (ha : a = repN r x) (hb : b = repN r y) : Uf (fun i j => E i j ∨ (i = x ∧ j = y)) (r.set (max a b) (min a b)):=by
 have fa : r.getD a a = a:=by rw [ha]; exact repN_fix h.dn x
 have fb : r.getD b b = b:=by rw [hb]; exact repN_fix h.dn y
 have hj:=repN_join h.dn hm fa fb
 refine ⟨h.dn.join hm,fun i j => ⟨fun e => ?_,fun t => ?_⟩⟩
 ·have up : ∀ i j,Tied E i j → Tied (fun i j => E i j ∨ (i = x ∧ j = y)) i j:=fun i j t => t.mono fun _ _ e => Or.inl e
  have xy : Tied (fun i j => E i j ∨ (i = x ∧ j = y)) x y:=.edge (Or.inr ⟨rfl,rfl⟩)
  have tq : ∀ i,repN r i = a → Tied (fun i j => E i j ∨ (i = x ∧ j = y)) i x:=fun i e => up _ _ ((h.iff i x).1 (e.trans ha))
  have tq' : ∀ i,repN r i = b → Tied (fun i j => E i j ∨ (i = x ∧ j = y)) i x:=fun i e => .trans (up _ _ ((h.iff i y).1 (e.trans hb))) (.symm xy)
  have tom : ∀ i,repN r i = max a b ∨ repN r i = min a b → Tied (fun i j => E i j ∨ (i = x ∧ j = y)) i x:=by
   intro i e
   rcases Nat.le_total a b with c | c
   ·rw [Nat.max_eq_right c,Nat.min_eq_left c] at e
    rcases e with e | e
    ·exact tq' i e
    ·exact tq i e
   ·rw [Nat.max_eq_left c,Nat.min_eq_right c] at e
    rcases e with e | e
    ·exact tq i e
    ·exact tq' i e
  rw [hj,hj] at e
  by_cases c1 : repN r i = max a b
  ·rw [if_pos c1] at e
   by_cases c2 : repN r j = max a b
   ·exact up _ _ ((h.iff i j).1 (c1.trans c2.symm))
   ·rw [if_neg c2] at e
    exact .trans (tom i (Or.inl c1)) (.symm (tom j (Or.inr e.symm)))
  ·rw [if_neg c1] at e
   by_cases c2 : repN r j = max a b
   ·rw [if_pos c2] at e
    exact .trans (tom i (Or.inr e)) (.symm (tom j (Or.inl c2)))
   ·rw [if_neg c2] at e
    exact up _ _ ((h.iff i j).1 e)
 ·induction t with
  | refl i => rfl
  | edge e =>
   rcases e with e | ⟨rfl,rfl⟩
   ·have:=(h.iff _ _).2 (.edge e)
    rw [hj,hj,this]
   ·rw [hj,hj,← ha,← hb]
    rcases Nat.le_total a b with c | c
    ·rw [Nat.max_eq_right c,Nat.min_eq_left c,if_pos rfl]
     split <;> rfl
    ·rw [Nat.max_eq_left c,Nat.min_eq_right c,if_pos rfl]
     split <;> rfl
  | symm _ ih => exact ih.symm
  | trans _ _ ih ih' => exact ih.trans ih'
theorem Tied.more {E E' : Nat → Nat → Prop} (h : ∀ i j,E i j → Tied E' i j) {i j : Nat} (t : Tied E i j) : Tied E' i j:=by
 induction t with
 | refl i => exact .refl i
 | edge e => exact h _ _ e
 | symm _ ih => exact .symm ih
 | trans _ _ ih ih' => exact .trans ih ih'
theorem Uf.same {E E' : Nat → Nat → Prop} {r : List Nat} (h : Uf E r) (h1 : ∀ i j,E i j → Tied E' i j) (h2 : ∀ i j,E' i j → Tied E i j) : Uf E' r :=
 ⟨h.dn,fun i j => (h.iff i j).trans ⟨fun t => t.more h1,fun t => t.more h2⟩⟩
theorem Uf.rep_eq {E : Nat → Nat → Prop} {r r' : List Nat} (h : Uf E r) (h' : Uf E r') (i : Nat) : repN r i = repN r' i:=by
 have a:=(h'.iff _ _).2 ((h.iff (repN r i) i).1 (repN_idem h.dn i))
 have b:=(h.iff _ _).2 ((h'.iff (repN r' i) i).1 (repN_idem h'.dn i))
 have c:=repN_le r' (repN r i)
 have d:=repN_le r (repN r' i)
 omega
theorem getD_range (n i : Nat) : (List.range n).getD i i = i:=by
 rw [List.getD_eq_getElem?_getD]
 by_cases h : i < n
 ·rw [List.getElem?_range h]; rfl
 ·rw [List.getElem?_eq_none (by simpa using h)]; rfl
theorem Uf.start (n : Nat) : Uf (fun _ _ => False) (List.range n):=by
 have hd : Dn (List.range n):=fun i => by rw [getD_range]; exact Nat.le_refl _
 have hr : ∀ i,repN (List.range n) i = i:=fun i => repN_root hd (getD_range n i)
 refine ⟨hd,fun i j => ⟨fun e => ?_,fun t => ?_⟩⟩
 ·rw [hr,hr] at e
  rw [e]
  exact .refl j
 ·induction t with
  | refl i => rfl
  | edge e => exact e.elim
  | symm _ ih => exact ih.symm
  | trans _ _ ih ih' => exact ih.trans ih'
open Go.RowKit
theorem Frz.In.put {H : Frz} {w : World} (h : H.In w) (o : Obj) : ∃ H',H.Le H' ∧ H' w.heap.size = some o ∧ H'.In (w.alloc o) :=
 ⟨H.add w.heap.size o,Frz.le_add (h.none_ (Nat.le_refl _)),Frz.add_at _ _ _,(h.alloc o).add (heap_at rfl)⟩
theorem Rw.take {D : Type} {H : Frz} {A : Option Addr} {k : Nat} {f : D → Nat → Value} {ds : List D} (h : Rw H A k f ds) (n : Nat) : Rw H A k f (ds.take n):=fun i hi => by
 have hi' : i < ds.length:=by simp at hi; omega
 obtain ⟨b,off,e,hc⟩:=h i hi'
 refine ⟨b,off,e,fun j hj => ?_⟩
 rw [hc j hj,List.getElem_take]
theorem Rw_blk {D : Type} {H : Frz} {g T k : Nat} {f : D → Nat → Value} {ds : List D} (h : H g = some (.cells (cellsOf k f ds).toArray T (0,0))) : Rw H (some ⟨g,0,none⟩) k f ds:=by
 intro i hi
 refine ⟨g,0,rfl,fun j hj => ?_⟩
 unfold Frz.cell?
 rw [show (⟨g,0 + i * k + j,none⟩ : Addr).block = g from rfl,h]
 have:=cellsOf_get k f ds i j hi hj
 simpa using this
open Go.RowKit
structure RtS (pr g n : Nat) (r : List Nat) (W : World) : Prop where
 ptr : W.heap[pr]? = some (.cells #[.slice (some ⟨g,0,none⟩) n n] 22 (0,0))
 blk : KBlk W g 3 1 fI (tab n fun k => ((r.getD k k : Nat) : Int)) []
 ne : pr ≠ g
 len : r.length = n
section
variable {pr g n : Nat} {r : List Nat} {W W' : World}
theorem RtS.cell (h : RtS pr g n r W) (i : Nat) (hi : i < n) : W.cell? ⟨g,i,none⟩ = some (.int .i64 ((r.getD i i : Nat) : Int)):=by
 have:=h.blk.cell1 i (by rw [tab_len]; exact hi)
 rw [tab_get] at this
 exact this
theorem RtS.set (h : RtS pr g n r W) (i : Nat) (hi : i < n) (x : Nat) : RtS pr g n (r.set i x) (W.setCell ⟨g,i,none⟩ (.int .i64 (x : Int))):=by
 have hne:=h.ne
 refine ⟨?_,?_,h.ne,by rw [List.length_set]; exact h.len⟩
 ·exact (Below.heap_setCell W ⟨g,i,none⟩ _ pr h.ne).trans h.ptr
 ·have:=h.blk.set1 i (by rw [tab_len]; exact hi) (x : Int)
  rw [tab_set] at this
  rw [tab_congr (G:=fun k => if k = i then (x : Int) else ((r.getD k k : Nat) : Int))]
  ·exact this
  ·intro k hk
   rw [getD_set (by rw [h.len]; exact hi)]
   split <;> rfl
theorem RtS.drew (h : RtS pr g n r W) : RtS pr g n r W.drew:=⟨h.ptr,h.blk,h.ne,h.len⟩
theorem grown_drewC {a b : World} {row : Option Nat} (h : a.grownBy b row) : a.grownBy b.drew row:=⟨h.os,h.tape,h.output,h.size,h.block⟩
theorem RtS.kept (h : RtS pr g n r W) {row : Option Nat} (hg : W.grownBy W' row) (h1 : some pr ≠ row) (h2 : some g ≠ row) : RtS pr g n r W' :=
 ⟨(hg.block _ (lt_of_heap h.ptr) h1).trans h.ptr,(hg.block _ (lt_of_heap h.blk) h2).trans h.blk,h.ne,h.len⟩
theorem RtS.below (h : RtS pr g n r W) (hb : Below W.heap.size W W') : RtS pr g n r W' :=
 h.kept (row:=none) ⟨hb.os,hb.tape,hb.output,hb.size,fun i hi _ => hb.block i hi⟩ (by simp) (by simp)
end
def FindQ (pr g n : Nat) (r0 : List Nat) (w w' : World) : Prop:=∃ r,RtS pr g n r w' ∧ Dn r ∧ (∀ j,repN r j = repN r0 j) ∧ w.grownBy w' (some g) ∧ ∀ q,r0.getD q q = repN r0 q → r.getD q q = repN r0 q
set_option maxHeartbeats 2000000 in
set_option maxRecDepth 100000 in
theorem find_any (pr g n : Nat) (r0 : List Nat) (w : World) (hr : RtS pr g n r0 w) (hd : Dn r0) (i0 : Nat) (hi : i0 < n) (hn : n ≤ 1000000) :
  Calls Tryz.prog 171 #[.int .i64 (i0 : Int),.pointer (some ⟨pr,0,none⟩)] w fun e w' => e = .returned (.int .i64 ((repN r0 i0 : Nat) : Int)) ∧ FindQ pr g n r0 w w':=by
 have J0 : Hid (FindQ pr g n r0 w w):=⟨r0,hr,hd,fun _ => rfl,World.grownBy.refl _ _,fun _ h => h⟩
 clear hr
 go_enter Tryz.func171,Tryz.ntmps171
 go_wp2_with fail
 go_loopw [0] (fun t wr => ∃ i : Nat,t = .int .i64 (i : Int) ∧ i < n ∧ Hid (repN r0 i = repN r0 i0) ∧ Hid (FindQ pr g n r0 w wr)) (fun t _ => (intOf t).toNat)
 case atStart => exact ⟨i0,rfl,hi,rfl,J0⟩
 case round =>
  obtain ⟨i,rfl,hi,hrep,J⟩:=hrel
  clear J0
  obtain ⟨r,hR,hD,hJ,hG,hFL⟩:=J.out
  clear J
  have p0 : wr.cell? ⟨pr,0,none⟩ = some (.slice (some ⟨g,0,none⟩) n n):=cell_h hR.ptr 0 rfl
  have c0:=hR.cell i hi
  have hle:=hD i
  have hle2:=hD (r.getD i i)
  by_cases e : r.getD i i = i
  ·have HF : Hid (((i : Nat) : Int) = ((repN r0 i0 : Nat) : Int) ∧ FindQ pr g n r0 w wr):=by
    refine ⟨?_,r,hR,hD,hJ,hG,hFL⟩
    rw [← hrep.out,← hJ,repN_root hD e]
   rw [e] at c0
   clear hle hle2 hR hD hJ hG hFL e
   go_wp2_with fail
   go_ret
   exact ⟨ret_int HF.out.1,HF.out.2⟩
  ·have hx : r.getD i i < n:=by omega
   have c1:=hR.cell (r.getD i i) hx
   have HR2 : Hid (RtS pr g n (r.set i (r.getD (r.getD i i) (r.getD i i))) (wr.setCell ⟨g,i,none⟩ (.int .i64 ((r.getD (r.getD i i) (r.getD i i) : Nat) : Int))).drew):=(hR.set i hi (r.getD (r.getD i i) (r.getD i i))).drew
   have HD2:=Lib.hid (hD.half (i:=i) (by rw [hR.len]; exact hi))
   have HJ2 : Hid (∀ j,repN (r.set i (r.getD (r.getD i i) (r.getD i i))) j = repN r0 j):=fun j => by rw [repN_half hD (by rw [hR.len]; exact hi),hJ]
   have HFL2 : Hid (∀ q,r0.getD q q = repN r0 q → (r.set i (r.getD (r.getD i i) (r.getD i i))).getD q q = repN r0 q):=fun q hq => by
    rw [← hJ q]
    exact flat_half hD (by rw [hR.len]; exact hi) (by rw [hJ q]; exact hFL q hq)
   have HP2 : Hid (repN r0 (r.getD (r.getD i i) (r.getD i i)) = repN r0 i0):=by
    show _ = _
    rw [← hrep.out,← hJ,← hJ,repN_go hD i,repN_go hD (r.getD i i)]
   have HG2 : Hid (w.grownBy (wr.setCell ⟨g,i,none⟩ (.int .i64 ((r.getD (r.getD i i) (r.getD i i) : Nat) : Int))).drew (some g)):=grown_drewC (grown_setC hG i _)
   have HX2 : Hid ((r.set i (r.getD (r.getD i i) (r.getD i i))).getD i i = r.getD (r.getD i i) (r.getD i i)):=by show _ = _; rw [getD_set (by rw [hR.len]; exact hi),if_pos rfl]
   have hf : wr.frozen? ⟨g,i,none⟩ = false:=hR.blk.frozen i
   have hlen:=hR.len
   clear hR hD hJ hG hrep hFL
   generalize r.set i (r.getD (r.getD i i) (r.getD i i)) = r2 at *
   generalize r.getD (r.getD i i) (r.getD i i) = x2 at *
   generalize r.getD i i = x at *
   have k1 : ((x : Int) != (i : Int)) = true:=by simp; omega
   have hxi : x < i:=by omega
   clear e
   go_wp2_with fail
   go_still_tail 10,(by kernel_rfl)
   change wpList _ _ _ _ _ wr.drew
   go_upto_region 3 with (fail)
   generalize (wr.setCell ⟨g,i,none⟩ (.int .i64 (x2 : Int))).drew = W3 at *
   clear p0 c0 c1 hf
   have p0 : W3.cell? ⟨pr,0,none⟩ = some (.slice (some ⟨g,0,none⟩) n n):=cell_h HR2.out.ptr 0 rfl
   have c0:=HR2.out.cell i hi
   rw [HX2.out] at c0
   go_wp2_with fail
   go_roundw
   case rel => exact ⟨x2,rfl,by omega,HP2,⟨r2,HR2.out,HD2.out,HJ2.out,HG2.out,HFL2.out⟩⟩
   case measure => simp [intOf]; omega
end Go.Proofs.YtbidhpgjmcedaaaGreatDoor
