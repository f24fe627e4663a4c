/- Texts of this claim, put together: NarrowP, FI, IntRow, Proof, Want, SayP, SufP. -/
import Derived.Test.YtcncifmanodabaaGreatDoorGAN
import Derived.Test.YtcncifmanodabaaGreatDoorGAO
import Derived.Test.YtcncifmanodabaaGreatDoorGAP
import Derived.Test.YtcncifmanodabaaGreatDoorGAQ
import Derived.Test.YtcncifmanodabaaGreatDoorGAB
import Derived.Test.YtcncifmanodabaaGreatDoorGAE
import Derived.Test.YtcncifmanodabaaGreatDoorShelf
import Derived.Sort.OwnSortedInts
import Derived.Shelf.Slices.In.SortNone
import Derived.Test.YtcncifmanodabaaGreatDoorGAL
import Derived.Test.YtcncifmanodabaaGreatDoorGAM
namespace Go.Proofs.YtcncifmanodabaaGreatDoor
set_option linter.unusedVariables false
open Go.RowKit
theorem best_not {l:List StD} {t:TermD} {at_:Int}:∀ (gs:List StD) (b:BestD),(b.why = 0 ∨ b.why = 2 ∨ b.why = 7 ∨ b.why = 8 ∨ b.why = 9) → (let w:=(gs.foldl (bestStep l t at_) b).why;w = 0 ∨ w = 2 ∨ w = 7 ∨ w = 8 ∨ w = 9)
 | [],b,h => h
 | g :: gs,b,h => by
  rw [List.foldl_cons]
  apply best_not gs
  unfold bestStep
  split
  ·show stateF l t g at_ = 0 ∨ stateF l t g at_ = 2 ∨ stateF l t g at_ = 7 ∨ stateF l t g at_ = 8 ∨ stateF l t g at_ = 9
   unfold stateF
   split
   ·simp
   ·split
    ·simp
    ·split
     ·simp
     ·split <;> simp
  ·exact h
theorem deny_may (ps:List PurD) (ss:List StD) (purp region:ByteArray) (ch at_:Int) (y:IdD) (h:denyB (askI ps ss purp region ch at_ y) = true):(askI ps ss purp region ch at_ y).may = false:=by
 unfold askI askF at h ⊢
 generalize saidF ss y.kind y.text ch = sd at h ⊢
 cases e:termF ps purp region ch with
 | none => rfl
 | some t =>
  rw [e] at h
  unfold answerF at h ⊢
  simp only at h ⊢
  split
  ·rfl
  ·rename_i c
   rw [if_neg c] at h
   unfold allowF at h ⊢
   split
   ·rfl
   ·rename_i c1
    rw [if_neg c1] at h
    split
    ·rename_i c2
     rw [if_pos c2] at h
     simp [denyB] at h
    ·rename_i c2
     rw [if_neg c2] at h
     split
     ·rfl
     ·rename_i c3
      rw [if_neg c3] at h
      have:=best_not (l:=upTo sd at_) (t:=t) (at_:=at_) (grF purp (upTo sd at_)) ⟨0,0,0⟩ (Or.inl rfl)
      change ((bestF (upTo sd at_) t at_ (grF purp (upTo sd at_))).why = 0 ∨ _) at this
      simp [denyB] at h
      show decide _ = false
      simp
      omega
def okAll (ask:IdD → AnsD) (x:IdD) (ids:List IdD):Bool:=(ask x).may && ids.all fun y => eqId y x || !denyB (ask y)
theorem ofF_may {ask:IdD → AnsD} (hd:∀ y,denyB (ask y) = true → (ask y).may = false) (x:IdD) (ids:List IdD):(ofF ask x ids).may = okAll ask x ids:=by
 unfold ofF okAll
 by_cases h:(ask x).may = false
 ·rw [if_pos h,h];rfl
 ·rw [if_neg h]
  have h':(ask x).may = true:=by simpa using h
  rw [h',Bool.true_and]
  cases e:ids.find? (ofOne ask x) with
  | some y =>
   have hp:=List.find?_some e
   have hm:=List.mem_of_find?_eq_some e
   unfold ofOne at hp
   simp only [Bool.and_eq_true,Bool.not_eq_true'] at hp
   show (ask y).may = _
   rw [hd y hp.2]
   symm
   rw [List.all_eq_false]
   exact ⟨y,hm,by simp [hp.1,hp.2]⟩
  | none =>
   rw [List.find?_eq_none] at e
   show (ask x).may = _
   rw [h']
   symm
   rw [List.all_eq_true]
   intro y hy
   have:=e y hy
   unfold ofOne at this
   cases h1:eqId y x <;> cases h2:denyB (ask y) <;> simp_all
theorem okAll_mono {ask:IdD → AnsD} {x:IdD} {ids ids':List IdD} (hs:∀ y ∈ ids,y ∈ ids') (h:okAll ask x ids' = true):okAll ask x ids = true:=by
 unfold okAll at h ⊢
 rw [Bool.and_eq_true,List.all_eq_true] at h ⊢
 exact ⟨h.1,fun y hy => h.2 y (hs y hy)⟩
structure NS (w:World) (bs K:Nat) (H:Frz) (tb:Nat) (ans:AnsD) (B:Nat) (v:Value) (ids:List IdD) (W:World):Prop where
 rm:RM 36 2 fId w bs K H B v ids W
 ht:W.heap[tb]? = some (.cells #[.bool ans.may,.int .i64 ans.why,.int .i64 ans.no] 44)
 hn:H tb = none
 hb:bs < tb
 ne:v.ownBlock ≠ some tb
section
variable {w W W':World} {bs K K' tb B:Nat} {H:Frz} {ans:AnsD} {v v':Value} {ids ids':List IdD}
theorem NS.asked (h:NS w bs K H tb ans B v ids W) (L:Lw w bs K' H W') (g:W.grownBy W' (some bs)):NS w bs K' H tb ans B v ids W' :=
 ⟨h.rm.asked L g,(g.block _ (lt_of_heap h.ht) (fun e => by injection e with e;have:=h.hb;omega)).trans h.ht,h.hn,h.hb,h.ne⟩
theorem NS.call (h:NS w bs K H tb ans B v ids W) (hb:Below W.heap.size W W'):NS w bs K H tb ans B v ids W' :=
 ⟨h.rm.call hb,(hb.block _ (lt_of_heap h.ht)).trans h.ht,h.hn,h.hb,h.ne⟩
theorem NS.alloc (h:NS w bs K H tb ans B v ids W) (o:Obj):NS w bs K H tb ans B v ids (W.alloc o):=h.call ((Below.refl _ _).alloc (Nat.le_refl _) _)
theorem NS.more (h:NS w bs K H tb ans B v ids W) (hK:K ≤ K'):NS w bs K' H tb ans B v ids W:=⟨h.rm.more hK,h.ht,h.hn,h.hb,h.ne⟩
theorem NS.app (h:NS w bs K H tb ans B v ids W) (o:Orow W' B 36 2 fId v' ids') (g1:W.grownBy W' v.ownBlock) (at1:v'.ownBlock = v.ownBlock ∨ ∃ g,v'.ownBlock = some g ∧ W.heap.size < g):NS w bs K H tb ans B v' ids' W' :=
 ⟨h.rm.app o g1 at1,(g1.block _ (lt_of_heap h.ht) (fun e => h.ne e.symm)).trans h.ht,h.hn,h.hb,by
  rcases at1 with e | ⟨g,e,hg⟩
  ·rw [e];exact h.ne
  ·rw [e];intro c;injection c with c;have:=lt_of_heap h.ht;omega⟩
theorem NS.set (h:NS w bs K H tb ans B v ids W) (a:AnsD):NS w bs K H tb a B v ids (((W.setCell ⟨tb,0,none⟩ (.bool a.may)).setCell ⟨tb,1,none⟩ (.int .i64 a.why)).setCell ⟨tb,2,none⟩ (.int .i64 a.no)):=by
 have g:W.grownBy (((W.setCell ⟨tb,0,none⟩ (.bool a.may)).setCell ⟨tb,1,none⟩ (.int .i64 a.why)).setCell ⟨tb,2,none⟩ (.int .i64 a.no)) (some tb):=grown_setC (grown_setC (grown_setC (World.grownBy.refl W (some tb)) 0 _) 1 _) 2 _
 exact ⟨⟨((h.rm.lw.setCell (p:=⟨tb,0,none⟩) h.hb h.hn _).setCell (p:=⟨tb,1,none⟩) h.hb h.hn _).setCell (p:=⟨tb,2,none⟩) h.hb h.hn _,h.rm.row.kept g (Or.inr h.ne),h.rm.2.2.1,h.rm.2.2.2.1,by have:=h.rm.2.2.2.2;simpa [World.setCell] using this⟩,set3 h.ht _ _ _,h.hn,h.hb,h.ne⟩
end
open Go.RowKit
def fI (z:Int) (_:Nat):Value:=.int .i64 z
theorem cellsOf_fI (zs:List Int):cellsOf 1 fI zs = zs.map (Value.int .i64):=by
 unfold cellsOf
 induction zs with
 | nil => rfl
 | cons z zs ih => rw [List.flatMap_cons,ih];rfl
open Go.RowKit
theorem contains_I (H:Frz) (A:Option Addr) (cap:Nat) (zs:List Int) (x:Int) (w:World) (hH:H.In w) (hR:Rw H A 1 fI zs) (hl:zs.length ≤ 1000000) :
  Calls Tryz.prog 142 #[.slice A zs.length cap,.int .i64 x] w fun e w' => e = .returned (.bool (zs.contains x)) ∧ Below w.heap.size w w':=by
 cases A with
 | none =>
  have hz:zs = []:=by
   cases zs with
   | nil => rfl
   | cons z zs => obtain ⟨b,off,e,_⟩:=hR 0 (by simp);cases e
  subst hz
  refine (Tryz.slices_Contains_int_empty none cap x w).mono ?_
  rintro e w' ⟨rfl,rfl⟩
  exact ⟨rfl,Below.refl _ _⟩
 | some ad =>
  by_cases h0:zs = []
  ·subst h0
   refine (Tryz.slices_Contains_int_empty (some ad) cap x w).mono ?_
   rintro e w' ⟨rfl,rfl⟩
   exact ⟨rfl,Below.refl _ _⟩
  ·obtain ⟨b,off,e,_⟩:=hR 0 (List.length_pos_iff.2 h0)
   injection e with e
   subst e
   refine (Tryz.slices_Contains_int b off zs.length cap zs x w (Nat.le_refl _) (by omega) (fun j hj => ?_)).mono ?_
   ·obtain ⟨b2,off2,e2,_,hc⟩:=hR.at_ hH hj (by omega)
    injection e2 with e2
    injection e2 with e3 e4
    subst e3 e4
    have:=hc 0 (by omega)
    simp only [Nat.mul_one,Nat.add_zero,fI] at this
    rw [this,List.getD_eq_getElem?_getD,List.getElem?_eq_getElem hj];rfl
   ·rintro e w' ⟨rfl,rfl⟩
    refine ⟨?_,Below.refl _ _⟩
    rw [List.take_length]
open Go.RowKit
structure PS (H:Frz) (w:World) (x:IdD) (qv:Array Value) (W:World):Prop where
 inn:H.In W
 bel:Below w.heap.size w W
 h1:W.heap[w.heap.size]? = some (.cells #[.int .i64 x.kind,.string x.text] 36)
 h3:W.heap[w.heap.size + 1]? = some (.cells qv 74)
theorem PS.below {H:Frz} {w W W':World} {x:IdD} {qv:Array Value} (h:PS H w x qv W) (hb:Below W.heap.size W W'):PS H w x qv W' :=
 ⟨h.inn.below hb,h.bel.trans (hb.mono h.bel.size),(hb.block _ (lt_of_heap h.h1)).trans h.h1,(hb.block _ (lt_of_heap h.h3)).trans h.h3⟩
theorem PS.start {H:Frz} {w:World} (hH:H.In w) (x:IdD) (qv:Array Value):PS H w x qv ((w.alloc (.cells #[.int .i64 x.kind,.string x.text] 36)).alloc (.cells qv 74)) :=
 ⟨(hH.alloc _).alloc _,new2 (w:=w) _ _,(heap_lt (by simp)).trans (heap_alloc_new _ _),heap_at (by simp)⟩
structure IR (H:Frz) (B:Nat) (v:Value) (zs:List Int) (w W:World):Prop where
 inn:H.In W
 row:Orow W B 3 1 fI v zs
 own:∀ g,v.ownBlock = some g → H g = none
 bel:Below w.heap.size w W
 hB:w.heap.size ≤ B
 le:B ≤ W.heap.size
section
variable {H:Frz} {B:Nat} {v v':Value} {zs zs':List Int} {w W W':World}
theorem IR.below (h:IR H B v zs w W) (hb:Below W.heap.size W W'):IR H B v zs w W' :=
 ⟨h.inn.below hb,h.row.below hb,h.own,h.bel.trans (hb.mono h.bel.size),h.hB,Nat.le_trans h.le hb.size⟩
theorem IR.app (h:IR H B v zs w W) (o:Orow W' B 3 1 fI v' zs') (g1:W.grownBy W' v.ownBlock) (at1:v'.ownBlock = v.ownBlock ∨ ∃ g,v'.ownBlock = some g ∧ W.heap.size < g):IR H B v' zs' w W' :=
 ⟨h.inn.grown' g1 h.own,o,fun q hq => by
  rcases at1 with e | ⟨g,e,hg⟩
  ·exact h.own q (by rw [← e];exact hq)
  ·rw [e] at hq;injection hq with hq;exact h.inn.none_ (by omega),h.bel.grown g1 h.bel.size (fun g hg => Nat.le_trans h.hB (h.row.lt hg).1),h.hB,Nat.le_trans h.le g1.size⟩
end
open Go.RowKit
open Go.RowKit
def stOne (ps:List PurD) (s:StD):Int :=
 if ¬ (1 ≤ s.no ∧ s.no ≤ 1000000) then 1 else if ¬ (0 ≤ s.at_ ∧ s.at_ ≤ 4321439) then 1
 else if idErr s.kind s.text ≠ 0 then idErr s.kind s.text
 else if ¬ (chB s.ch = true ∧ 1 ≤ s.what ∧ s.what ≤ 5) then 4
 else if ofCh s.what = true ∧ ¬ s.purp.size = 0 then 3 else if ofCh s.what = false ∧ (purF ps s.purp).isNone = true then 8
 else if isKey s.region = false then 5 else 0
theorem stErr_zero {ps:List PurD} {ss:List StD} {i:Nat} (h:i < ss.length):stErr idErr ps ss i = 0 ↔ (0 < i → (ss.getD (i - 1) ss[i]).no < ss[i].no) ∧ stOne ps ss[i] = 0:=by
 rw [stErr_at idErr h]
 unfold stOne
 generalize ss[i] = s
 generalize ss.getD (i - 1) s = t
 by_cases h1:1 ≤ s.no ∧ s.no ≤ 1000000
 ·rw [if_neg (by omega),if_neg (show ¬ ¬ (1 ≤ s.no ∧ s.no ≤ 1000000) by omega)]
  by_cases h2:0 < i ∧ s.no ≤ t.no
  ·rw [if_pos h2]
   constructor
   ·intro c;cases c
   ·rintro ⟨c,-⟩
    have:=c h2.1
    omega
  ·rw [if_neg h2]
   constructor
   ·intro c
    exact ⟨fun h => by omega,c⟩
   ·rintro ⟨-,c⟩
    exact c
 ·rw [if_pos (by omega),if_pos (by omega)]
  constructor
  ·intro c;cases c
  ·rintro ⟨-,c⟩;cases c
theorem say_iff (ps:List PurD) (ss:List StD):sayErr idErr ps ss = 0 ↔ polErr ps = 0 ∧ ss.length ≤ 3000 ∧ (ss.Pairwise fun a b => a.no < b.no) ∧ ∀ s ∈ ss,stOne ps s = 0:=by
 unfold sayErr
 by_cases hp:polErr ps = 0
 ·rw [if_neg (by simpa using hp)]
  by_cases hl:3000 < ss.length
  ·rw [if_pos hl]
   constructor
   ·intro c;cases c
   ·rintro ⟨_,c,_⟩;omega
  ·rw [if_neg hl,fstErr_zero]
   constructor
   ·intro h
    refine ⟨hp,by omega,?_,?_⟩
    ·rw [List.pairwise_iff_getElem]
     have:∀ j (hj:j < ss.length) i (hi:i < j),(ss[i]'(by omega)).no < ss[j].no:=by
      intro j
      induction j with
      | zero => intro _ i hi;omega
      | succ j ih =>
       intro hj i hi
       have h1:=((stErr_zero hj).1 (h _ hj)).1 (by omega)
       have e:(ss.getD (j + 1 - 1) ss[j + 1]) = ss[j]:=by rw [List.getD_eq_getElem?_getD,List.getElem?_eq_getElem (by omega)];rfl
       rw [e] at h1
       by_cases c:i = j
       ·subst c;exact h1
       ·have:=ih (by omega) i (by omega)
        omega
     intro i j hi hj hij
     exact this j hj i hij
    ·intro s hs
     obtain ⟨i,hi,rfl⟩:=List.mem_iff_getElem.1 hs
     exact ((stErr_zero hi).1 (h i hi)).2
   ·rintro ⟨_,_,h1,h2⟩ i hi
    rw [stErr_zero hi]
    refine ⟨fun h0 => ?_,h2 _ (List.getElem_mem hi)⟩
    have e:(ss.getD (i - 1) ss[i]) = ss[i - 1]:=by rw [List.getD_eq_getElem?_getD,List.getElem?_eq_getElem (by omega)];rfl
    rw [e]
    exact List.pairwise_iff_getElem.1 h1 (i - 1) i (by omega) hi (by omega)
 ·rw [if_pos hp]
  constructor
  ·intro c;exact absurd c hp
  ·rintro ⟨c,_⟩;exact absurd c hp
open Go.RowKit
def Uniq (l:List StD):Prop:=l.Pairwise fun a b => a.no ≠ b.no
theorem Uniq.filter {l:List StD} (h:Uniq l) (p:StD → Bool):Uniq (l.filter p):=List.Pairwise.filter p h
theorem wd_from (purp:ByteArray):∀ (l:List StD) (w:Option StD) (x:StD),l.foldl (wdStep purp) w = some x → w = some x ∨ (x ∈ l ∧ x.what = 3 ∧ eqS x.purp purp = true)
 | [],w,x,h => Or.inl h
 | y :: l,w,x,h => by
  rw [List.foldl_cons] at h
  rcases wd_from purp l _ x h with h1 | ⟨h1,h2⟩
  ·unfold wdStep at h1
   split at h1
   ·rename_i c
    injection h1 with h1
    subst h1
    exact Or.inr ⟨List.mem_cons_self,c.1,c.2.1⟩
   ·exact Or.inl h1
  ·exact Or.inr ⟨List.mem_cons_of_mem _ h1,h2⟩
theorem best_from (l:List StD) (t:TermD) (at_:Int):∀ (gs:List StD) (b:BestD),gs.foldl (bestStep l t at_) b = b ∨ ∃ g ∈ gs,(gs.foldl (bestStep l t at_) b).no = g.no ∧ (gs.foldl (bestStep l t at_) b).why = stateF l t g at_
 | [],b => Or.inl rfl
 | g :: gs,b => by
  rw [List.foldl_cons]
  rcases best_from l t at_ gs (bestStep l t at_ b g) with h | ⟨x,hx,h⟩
  ·rw [h]
   unfold bestStep
   split
   ·exact Or.inr ⟨g,List.mem_cons_self,rfl,rfl⟩
   ·exact Or.inl rfl
  ·exact Or.inr ⟨x,List.mem_cons_of_mem _ hx,h⟩
theorem best_some {l:List StD} {t:TermD} {at_:Int} {gs:List StD} (h:gs ≠ []):∃ g ∈ gs,(bestF l t at_ gs).no = g.no ∧ (bestF l t at_ gs).why = stateF l t g at_:=by
 cases gs with
 | nil => exact absurd rfl h
 | cons g gs =>
  unfold bestF
  rw [List.foldl_cons]
  have e:bestStep l t at_ ⟨0,0,0⟩ g = ⟨stateF l t g at_,g.at_,g.no⟩:=by unfold bestStep;rw [if_pos (Or.inl rfl)]
  rw [e]
  rcases best_from l t at_ gs ⟨stateF l t g at_,g.at_,g.no⟩ with h | ⟨x,hx,h⟩
  ·rw [h];exact ⟨g,List.mem_cons_self,rfl,rfl⟩
  ·exact ⟨x,List.mem_cons_of_mem _ hx,h⟩
end Go.Proofs.YtcncifmanodabaaGreatDoor
