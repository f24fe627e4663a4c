/- Texts of this claim, put together: Isort, ConsP. -/
import Derived.Test.YtfmnlpmgakgleaaGreatDoorGAC
import Derived.Test.YtfmnlpmgakgleaaGreatDoorGAD
namespace Go.Proofs.YtfmnlpmgakgleaaGreatDoor
set_option linter.unusedVariables false
open Go.RowKit
section
variable {D:Type}
def insLast (lt:D → D → Bool) (x:D) (acc:List D):List D:=(acc.reverse.dropWhile (lt x)).reverse ++ x :: (acc.reverse.takeWhile (lt x)).reverse
theorem takeWhile_all_append {p:D → Bool} {a b:List D} (ha:∀ x ∈ a,p x = true) (hb:b.head?.map p ≠ some true):(a ++ b).takeWhile p = a ∧ (a ++ b).dropWhile p = b:=by
 induction a with
 | nil =>
  cases b with
  | nil => exact ⟨rfl,rfl⟩
  | cons y b =>
   have:p y = false:=by cases h:p y <;> simp_all
   simp [this]
 | cons x a ih =>
  have h1:=ha x List.mem_cons_self
  have h2:=ih fun y hy => ha y (List.mem_cons_of_mem _ hy)
  simp [h1,h2]
theorem insLast_eq {lt:D → D → Bool} {x:D} {P S:List D} (hS:∀ s ∈ S,lt x s = true) (hP:P.getLast?.map (lt x) ≠ some true):insLast lt x (P ++ S) = P ++ x :: S:=by
 have h:=takeWhile_all_append (p:=lt x) (a:=S.reverse) (b:=P.reverse) (by simpa using hS) (by simpa using hP)
 unfold insLast
 rw [List.reverse_append,h.1,h.2]
 simp
theorem nil_or_snoc (l:List D):l = [] ∨ ∃ L b,l = L ++ [b]:=by
 rcases List.eq_nil_or_concat l with h | ⟨L,b,h⟩
 ·exact Or.inl h
 ·exact Or.inr ⟨L,b,by rw [h,List.concat_eq_append]⟩
def SIn (lt:D → D → Bool) (acc:List D) (x:D) (R:List D) (j:Nat) (ys:List D):Prop :=
 ∃ P S,ys = P ++ x :: (S ++ R) ∧ P ++ S = acc ∧ P.length = j ∧ ∀ s ∈ S,lt x s = true
section
variable {lt:D → D → Bool} {acc R ys:List D} {x:D} {j:Nat}
theorem SIn.start (acc R:List D) (x:D):SIn lt acc x R acc.length (acc ++ x :: R):=⟨acc,[],by simp,by simp,rfl,by simp⟩
theorem SIn.length (h:SIn lt acc x R j ys):ys.length = acc.length + 1 + R.length ∧ j ≤ acc.length:=by
 obtain ⟨P,S,rfl,rfl,rfl,_⟩:=h
 simp;omega
theorem SIn.at_ (h:SIn lt acc x R j ys) (hj:j < ys.length):ys[j] = x:=by
 obtain ⟨P,S,rfl,rfl,rfl,_⟩:=h
 simp
theorem SIn.swap (h:SIn lt acc x R j ys) (hj:0 < j) (hl:j < ys.length) (hlt:lt x (ys[j - 1]'(by omega)) = true):SIn lt acc x R (j - 1) ((ys.set j (ys[j - 1]'(by omega))).set (j - 1) x):=by
 obtain ⟨P,S,rfl,rfl,rfl,hS⟩:=h
 rcases nil_or_snoc P with rfl | ⟨P,y,rfl⟩
 ·simp at hj
 ·have e:((P ++ [y]) ++ x :: (S ++ R))[(P ++ [y]).length - 1]'(by simp) = y:=by simp
  rw [e] at hlt ⊢
  refine ⟨P,y :: S,?_,by simp,by simp,?_⟩
  ·simp
  ·intro s hs
   rcases List.mem_cons.1 hs with rfl | hs
   ·exact hlt
   ·exact hS s hs
theorem SIn.done (h:SIn lt acc x R j ys) (hl:ys.length = acc.length + 1 + R.length) (hlt:∀ (h0:0 < j),lt x (ys[j - 1]'(by have:=h.length;omega)) = false):ys = insLast lt x acc ++ R:=by
 have hn:=h.length
 obtain ⟨P,S,rfl,rfl,rfl,hS⟩:=h
 rw [insLast_eq hS]
 ·simp
 ·rcases nil_or_snoc P with rfl | ⟨P,y,rfl⟩
  ·simp
  ·have:=hlt (by simp)
   have e:((P ++ [y]) ++ x :: (S ++ R))[(P ++ [y]).length - 1]'(by simp) = y:=by simp
   rw [e] at this
   simp [this]
end
def KBlk (w:World) (g T k:Nat) (f:D → Nat → Value) (ds:List D) (rest:List Value):Prop:=w.heap[g]? = some (.cells (cellsOf k f ds ++ rest).toArray T (0,0))
def setK (w:World) (g:Nat):Nat → List Value → World
 | _,[] => w
 | o,v :: vs => setK (w.setCell ⟨g,o,none⟩ v) g (o + 1) vs
theorem setK_heap (w:World) (g o:Nat) (vs:List Value) {cs:Array Value} {T:TypeId} (h:w.heap[g]? = some (.cells cs T (0,0))) (hl:o + vs.length ≤ cs.size) :
  (setK w g o vs).heap[g]? = some (.cells (cs.toList.take o ++ vs ++ cs.toList.drop (o + vs.length)).toArray T (0,0)):=by
 induction vs generalizing w o cs with
 | nil => simp [setK,h]
 | cons v vs ih =>
  simp only [List.length_cons] at hl
  have h1:(w.setCell ⟨g,o,none⟩ v).heap[g]? = some (.cells (cs.setIfInBounds o v) T (0,0)):=by simp [World.setCell,Array.getElem?_modify,h]
  have:=ih (w.setCell ⟨g,o,none⟩ v) (o + 1) h1 (by simp;omega)
  simp only [setK]
  rw [this]
  congr 2
  have e1:(cs.setIfInBounds o v).toList = cs.toList.set o v:=by simp
  rw [e1]
  apply congrArg List.toArray
  have e2:(cs.toList.set o v).take (o + 1) = cs.toList.take o ++ [v]:=by
   rw [List.take_set,List.take_succ_eq_append_getElem (by simp;omega),List.set_append_right _ _ (by simp;omega)]
   simp
   rw [show o - min o cs.size = 0 from by omega]
   rfl
  rw [e2,List.drop_set_of_lt (by omega)]
  simp [Nat.add_assoc,Nat.add_comm 1]
theorem setK_grown {a w:World} {g:Nat} (o:Nat) (vs:List Value) (h:a.grownBy w (some g)):a.grownBy (setK w g o vs) (some g):=by
 induction vs generalizing w o with
 | nil => exact h
 | cons v vs ih =>
  exact ih (o + 1) ⟨h.os,h.tape,h.output,by simpa [World.setCell] using h.size,fun k hk hne => (Below.heap_setCell w _ v k (fun e => hne (by rw [e]))).trans (h.block k hk hne)⟩
section
variable {w w':World} {g T k:Nat} {f:D → Nat → Value} {ds:List D} {rest:List Value}
theorem KBlk.lt (h:KBlk w g T k f ds rest):g < w.heap.size:=lt_of_heap h
theorem KBlk.cell (h:KBlk w g T k f ds rest) (i j:Nat) (hi:i < ds.length) (hj:j < k):w.cell? ⟨g,i * k + j,none⟩ = some (f ds[i] j):=by
 unfold KBlk at h
 have hx:=cellsOf_get k f ds i j hi hj
 have hlt:=(List.getElem?_eq_some_iff.1 hx).1
 simp only [World.cell?,h]
 simp only [Option.isSome_none,Bool.false_eq_true,if_false,List.getElem?_toArray]
 rw [List.getElem?_append_left hlt,hx]
theorem KBlk.frozen (h:KBlk w g T k f ds rest) (i:Nat):w.frozen? ⟨g,i,none⟩ = false:=by
 unfold KBlk at h
 simp [World.frozen?,h]
theorem KBlk.keep (h:KBlk w g T k f ds rest) (hb:Below w.heap.size w w'):KBlk w' g T k f ds rest:=(hb.block g h.lt).trans h
theorem KBlk.drewN (h:KBlk w g T k f ds rest) (n:Nat):KBlk (w.drewN n) g T k f ds rest:=h
theorem cellsOf_split (k:Nat) (f:D → Nat → Value) (a b:List D):cellsOf k f (a ++ b) = cellsOf k f a ++ cellsOf k f b:=by simp [cellsOf]
theorem KBlk.put (h:KBlk w g T k f ds rest) (i:Nat) (hi:i < ds.length) (d:D):KBlk (setK w g (i * k) ((List.range k).map (f d))) g T k f (ds.set i d) rest:=by
 unfold KBlk at h ⊢
 have hl:=cellsOf_len k f ds
 have hik:i * k + k ≤ ds.length * k:=by rw [← Nat.succ_mul];exact Nat.mul_le_mul_right _ hi
 rw [setK_heap w g (i * k) _ h (by simp [hl];omega)]
 congr 3
 have e1:ds.set i d = ds.take i ++ d :: ds.drop (i + 1):=List.set_eq_take_append_cons_drop .. |>.trans (by rw [if_pos hi])
 have l1:(cellsOf k f (ds.take i)).length = i * k:=by rw [cellsOf_len,List.length_take];congr 1;omega
 rw [e1]
 have e3:cellsOf k f ds = cellsOf k f (ds.take i) ++ ((List.range k).map (f ds[i]) ++ cellsOf k f (ds.drop (i + 1))):=by
  have h3:cellsOf k f ds = cellsOf k f (ds.take i ++ ds.drop i):=by rw [List.take_append_drop]
  rw [h3,cellsOf_split]
  congr 1
  rw [List.drop_eq_getElem_cons hi]
  rfl
 have e4:cellsOf k f (ds.take i ++ d :: ds.drop (i + 1)) = cellsOf k f (ds.take i) ++ ((List.range k).map (f d) ++ cellsOf k f (ds.drop (i + 1))):=by
  rw [cellsOf_split]
  simp [cellsOf]
 rw [e3,e4]
 simp only [List.append_assoc]
 rw [List.take_left' l1]
 congr 1
 congr 1
 rw [List.length_map,List.length_range,← List.append_assoc (cellsOf k f (ds.take i)),List.drop_left' (by simp [l1])]
end
end
open Go.RowKit
structure StD where
 no:Int
 at_:Int
 kind:Int
 text:ByteArray
 purp:ByteArray
 region:ByteArray
 ch:Int
 what:Int
structure TermD where
 region:ByteArray
 ch:Int
 free:Bool
 days:Int
 wait:Int
structure PurD where
 name:ByteArray
 adr:Option Addr
 cap:Nat
 terms:List TermD
structure AnsD where
 may:Bool
 why:Int
 no:Int
def eqS (a b:ByteArray):Bool:=a.toList == b.toList
theorem eqS_iff {a b:ByteArray}:eqS a b = true ↔ a = b:=by
 unfold eqS
 rw [beq_iff_eq]
 exact ⟨toList_inj,fun h => by rw [h]⟩
theorem cmpS_le_trans {a b c:ByteArray} (h1:cmpS a b ≤ 0) (h2:cmpS b c < 0):cmpS a c < 0:=by
 rcases Int.lt_or_eq_of_le h1 with h | h
 ·exact cmpS_trans h h2
 ·rw [cmpS_zero h];exact h2
def orI (a b:Int):Int:=if a = 0 then b else a
def fstErr (f:Nat → Int):Nat → Int
 | 0 => 0
 | n + 1 => if fstErr f n = 0 then f n else fstErr f n
theorem fstErr_zero {f:Nat → Int} {n:Nat}:fstErr f n = 0 ↔ ∀ i,i < n → f i = 0:=by
 induction n with
 | zero => simp [fstErr]
 | succ n ih =>
  unfold fstErr
  constructor
  ·intro h
   by_cases e:fstErr f n = 0
   ·rw [if_pos e] at h
    intro i hi
    by_cases c:i = n
    ·rw [c];exact h
    ·exact ih.1 e i (by omega)
   ·rw [if_neg e] at h;exact absurd h e
  ·intro h
   rw [if_pos (ih.2 fun i hi => h i (by omega))]
   exact h n (by omega)
theorem fstErr_bad {f:Nat → Int} {n i:Nat} (hi:i < n) (h0:fstErr f i = 0) (he:f i ≠ 0):fstErr f n = f i:=by
 induction n with
 | zero => omega
 | succ n ih =>
  unfold fstErr
  by_cases c:i = n
  ·subst c;rw [if_pos h0]
  ·rw [ih (by omega),if_neg he]
theorem fstErr_next {f:Nat → Int} {i:Nat} (h0:fstErr f i = 0) (he:f i = 0):fstErr f (i + 1) = 0:=by
 unfold fstErr;rw [if_pos h0];exact he
structure ObjD where
 no:Int
 last:Int
 is:Bool
structure BestD where
 why:Int
 at_:Int
 no:Int
structure QueD where
 kind:Int
 text:ByteArray
 purp:ByteArray
 region:ByteArray
 ch:Int
 at_:Int
end Go.Proofs.YtfmnlpmgakgleaaGreatDoor
