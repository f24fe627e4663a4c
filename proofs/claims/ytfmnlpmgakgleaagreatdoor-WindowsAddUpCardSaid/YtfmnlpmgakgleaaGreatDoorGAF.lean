/- Texts of this claim, put together: FieldP, IdP, IdD, EqId, Conc. -/
import Derived.Test.YtfmnlpmgakgleaaGreatDoorGAB
import Derived.Test.YtfmnlpmgakgleaaGreatDoorGAE
import Derived.Test.YtfmnlpmgakgleaaGreatDoorGAD
import Derived.Lib.Split
import Derived.StillTail
import Derived.Below
import Derived.Lib.Hide
namespace Go.Proofs.YtfmnlpmgakgleaaGreatDoor
set_option linter.unusedVariables false
open Go.RowKit
structure VD where
 kind:Int
 text:ByteArray
 num:Int
structure FD where
 name:ByteArray
 v:VD
structure MsD where
 name:ByteArray
 how:Int
 far:Int
 pts:Int
def vV (v:VD):Value:=.agg #[.int .i64 v.kind,.string v.text,.int .i64 v.num]
def fFd (f:FD):Nat → Value
 | 0 => .string f.name
 | 1 => .int .i64 f.v.kind
 | 2 => .string f.v.text
 | _ => .int .i64 f.v.num
def findF (l:List FD) (n:ByteArray):Option VD:=(l.find? fun f => f.name.toList == n.toList).map (·.v)
def txtErr (ok:ByteArray → Bool) (s:ByteArray):Int:=if 200 < s.size then 2 else if ok s = true then 0 else 3
def valErr (ok:ByteArray → Bool) (v:VD):Int :=
 if v.kind = 1 then (if v.num = 0 then txtErr ok v.text else 3)
 else if v.kind = 2 ∨ v.kind = 3 ∨ v.kind = 4 then
  if v.text.size ≠ 0 then 3
  else if (if v.kind = 2 then -1000000000000 else 0) ≤ v.num ∧ v.num ≤ (if v.kind = 2 then 1000000000000 else if v.kind = 3 then 1 else 4321439) then 0 else 1
 else 4
open Go.RowKit
def capB (c:UInt8):Bool:=decide ((65:Int) ≤ c.toNat) && decide ((c.toNat:Int) ≤ 90)
def labC (c:UInt8):Bool:=smallB c || digitB c || ((c.toNat:Int) == 45)
def mailC (c:UInt8):Bool:=smallB c || digitB c || ((c.toNat:Int) == 46) || ((c.toNat:Int) == 45) || ((c.toNat:Int) == 95)
def memC (c:UInt8):Bool:=digitB c || capB c
def devC (c:UInt8):Bool:=digitB c || (decide ((97:Int) ≤ c.toNat) && decide ((c.toNat:Int) ≤ 102))
def byteAt (s:ByteArray) (i:Nat):Int:=((s.data.toList.getD i 0).toNat:Int)
def labelF (s:ByteArray):Bool :=
 if ¬ (1 ≤ s.size ∧ s.size ≤ 30) then false else if byteAt s 0 = 45 then false else if byteAt s (s.size - 1) = 45 then false else allB labC s
def dotB:ByteArray:=⟨#[46]⟩
def localF (s:ByteArray):ByteArray:=⟨(Lib.cut s.data.toList [64]).1.toArray⟩
def domainF (s:ByteArray):ByteArray:=⟨(Lib.cut s.data.toList [64]).2.1.toArray⟩
def labelsF (s:ByteArray):List ByteArray:=Lib.splitB dotB 0 (Lib.countB s dotB) s
def mailF (s:ByteArray):Bool :=
 if (Lib.cut s.data.toList [64]).2.2 = false then false else if 80 < s.size then false else if ¬ (1 ≤ (localF s).size ∧ (localF s).size ≤ 64) then false
 else if byteAt (localF s) 0 = 46 then false else if byteAt (localF s) ((localF s).size - 1) = 46 then false else if Lib.contains (localF s).data.toList [46,46] = true then false
 else if allB mailC (localF s) = false then false else if (labelsF (domainF s)).all labelF = false then false else decide (2 ≤ (labelsF (domainF s)).length)
def phoneF (s:ByteArray):Bool :=
 if Lib.hasPrefix s.data.toList [43] = false then false else if ¬ (8 ≤ s.size ∧ s.size ≤ 16) then false else if allB digitB (s.extract 1 s.size) = false then false else decide (byteAt s 1 ≠ 48)
def memberF (s:ByteArray):Bool:=decide (4 ≤ s.size ∧ s.size ≤ 20) && allB memC s
def deviceF (s:ByteArray):Bool:=decide (s.size = 32) && allB devC s
def signs:List UInt8:=[48,49,50,51,52,53,54,55,56,57,65,66,67,68,69,70,71,72,73,74,75,76,77,78,79,80,81,82,83,84,85,86,87,88,89,90]
def signSum (l:List UInt8):Nat → Int × Int
 | 0 => (0,2)
 | n + 1 => ((signSum l n).1 + (signSum l n).2 * Lib.indexByte signs (l.getD (l.length - 1 - n) 0) / 36 + (signSum l n).2 * Lib.indexByte signs (l.getD (l.length - 1 - n) 0) % 36,3 - (signSum l n).2)
def signF (s:ByteArray):Int:=((signs.getD ((36 - (signSum s.data.toList s.size).1 % 36) % 36).toNat 0).toNat:Int)
def idErr (kind:Int) (s:ByteArray):Int :=
 if kind = 1 then (if mailF s = true then 0 else 3) else if kind = 2 then (if phoneF s = true then 0 else 3)
 else if kind = 3 then (if memberF s = false then 3 else if signF (s.extract 0 (s.size - 1)) ≠ byteAt s (s.size - 1) then 15 else 0)
 else if kind = 4 then (if deviceF s = true then 0 else 3) else 4
def poolL:List (Int × List UInt8):=[(1,[97,64,98,46,100,101]),(1,[97,110,110,46,98,64,120,45,121,46,111,114,103]),(1,[98,111,98,95,49,64,98,46,100,101]),(1,[122,45,64,48,46,97]),(2,[43,52,57,51,48,49,50,51,52,53,54]),(2,[43,49,53,53,53,48,48,48,49,49,49]),(3,[65,66,49,51]),(3,[48,48,48,48,48,48,48,48,48,48,48,48,48,48,48,48,48,48,48,48]),(4,[48,49,50,51,52,53,54,55,56,57,97,98,99,100,101,102,48,49,50,51,52,53,54,55,56,57,97,98,99,100,101,102]),(4,[102,102,102,102,102,102,102,102,102,102,102,102,102,102,102,102,102,102,102,102,102,102,102,102,102,102,102,102,102,102,102,102])]
theorem pool_right:poolL.all (fun x => idErr x.1 ⟨x.2.toArray⟩ == 0) = true:=by decide +kernel
theorem pool_ok (k:Nat) (h:k < poolL.length):idErr poolL[k].1 ⟨poolL[k].2.toArray⟩ = 0 ∧ (⟨poolL[k].2.toArray⟩:ByteArray).size ≤ 1000:=by
 constructor
 ·have:=List.all_eq_true.1 pool_right _ (List.getElem_mem h)
  simpa using this
 ·have:∀ x ∈ poolL,x.2.length ≤ 1000:=by decide
  exact this _ (List.getElem_mem h)
open Go.RowKit
structure IdD where
 kind:Int
 text:ByteArray
def fId (d:IdD):Nat → Value
 | 0 => .int .i64 d.kind
 | _ => .string d.text
open Go.RowKit
def eqId (a b:IdD):Bool:=decide (a.kind = b.kind) && eqS a.text b.text
open Go.RowKit
def OpV (P:Program) (o:Oper) (ev:Operand → Value) (w:World) (R:Value → World → Prop):Prop :=
 match (execOp ev o).run P w with
 | .ok (.value v) w' => R v w'
 | .ok .skip w' => R undef w'
 | .ok (.enter f args) w' => Calls P f args w' fun e w'' => ∃ v,e = .returned v ∧ R v w''
 | _ => False
theorem OpV.wp {P:Program} {o:Oper} {a:Act} {w:World} {R:Value → World → Prop} {K:Act → World → Prop} {Q:Exit → Act → World → Prop} (h:OpV P o a.eval w R) (hK:∀ v w',R v w' → K (a.put o.dst v) w'):o.wp P a w K Q:=by
 unfold Oper.wp
 unfold OpV at h
 generalize (execOp a.eval o).run P w = r at h ⊢
 cases r with
 | halt x w' => cases h
 | ok n w' =>
  cases n with
  | value v => exact hK _ _ h
  | skip => exact hK _ _ h
  | enter f args =>
   refine Calls.mono h ?_
   rintro e w'' ⟨v,rfl,hR⟩
   exact hK _ _ hR
  | defer d => cases h
  | row r xs => cases h
  | _ => cases h
def dstAt (l:List Oper) (i:Nat):Option Tmp:=(l[i]?).bind (·.dst)
def writer (l:List Oper) (n s:Nat):Option Nat:=(List.range n).find? fun i => dstAt l i == some s
def known (l:List Oper) (n:Nat) (T:Array Value) (φ:Nat → Value → World → Prop) (s:Nat) (x:Value) (w:World):Prop :=
 match writer l n s with
 | some j => φ j x w
 | none => x = T.getD s undef
def tmpsOf (o:Oper):List Nat:=o.op.operands.toList.filterMap fun | .tmp t => some t | _ => none
def allTrue (n m:Nat):Array Bool:=((List.range m).map fun t => decide (t < n)).toArray
def concB (l:List Oper) (n N:Nat):Bool :=
 decide (n < l.length) && Region.sinkB .any l.toArray n && Region.chainB .any l.toArray n && Region.seqB .any l.toArray (l.length - n) n (allTrue n l.length) &&
 ((List.range n).all fun i => match l[i]? with
  | some o => o.guard.isNone && (match o.dst with | some d => decide (d < N) && decide (writer l n d = some i) | none => false) &&
    (o.after.toList.all fun e => !Region.binds .any e || decide (e.on < i)) &&
    ((tmpsOf o).all fun s => match writer l n s with | some j => Region.waitsFor .any l.toArray i j | none => true)
  | none => false)
def putAll:List Oper → Nat → (Nat → Value) → Act → Act
 | [],_,_,a => a
 | o :: l,i,x,a => putAll l (i + 1) x (a.put o.dst (x i))
section
variable {P:Program} {l:List Oper} {n N:Nat} {a0:Act} {φ:Nat → Value → World → Prop} {J:Nat → World → Prop} {E:World → World → Prop} {Q:Exit → Act → World → Prop}
theorem concB_at (h:concB l n N = true) {i:Nat} (hi:i < n):∃ o d,l[i]? = some o ∧ o.guard = none ∧ o.dst = some d ∧ d < N ∧ writer l n d = some i ∧ (∀ e ∈ o.after,Region.binds .any e = true → e.on < i) ∧ ∀ s ∈ tmpsOf o,∀ j,writer l n s = some j → Region.waitsFor .any l.toArray i j = true:=by
 simp only [concB,Bool.and_eq_true] at h
 have h1:=List.all_eq_true.1 h.2 i (List.mem_range.2 hi)
 cases ho:l[i]? with
 | none => rw [ho] at h1;cases h1
 | some o =>
  rw [ho] at h1
  simp only [Bool.and_eq_true] at h1
  obtain ⟨⟨⟨g1,g2⟩,g3⟩,g4⟩:=h1
  cases hd:o.dst with
  | none => rw [hd] at g2;cases g2
  | some d =>
   rw [hd] at g2
   simp only [Bool.and_eq_true,decide_eq_true_eq] at g2
   refine ⟨o,d,rfl,by simpa using g1,hd,g2.1,g2.2,?_,?_⟩
   ·intro e he hb
    have:=List.all_eq_true.1 g3 e (by simpa using he)
    simpa [hb] using this
   ·intro s hs j hj
    have:=List.all_eq_true.1 g4 s hs
    rw [hj] at this
    exact this
structure CInv (l:List Oper) (n:Nat) (a0:Act) (φ:Nat → Value → World → Prop) (J:Nat → World → Prop) (k:Nat) (listed:Array Bool) (a:Act) (w:World):Prop where
 head:HeadInv .any l.toArray n listed
 world:J k w
 defers:a.defers = a0.defers
 size:a.tmps.size = a0.tmps.size
 other:∀ s,writer l n s = none → a.tmps.getD s undef = a0.tmps.getD s undef
 done:∀ i s,i < n → listed.getD i false = true → dstAt l i = some s → φ i (a.tmps.getD s undef) w
theorem getD_put {a:Act} {d s:Nat} {v:Value} (hd:d < a.tmps.size):(a.put (some d) v).tmps.getD s undef = if s = d then v else a.tmps.getD s undef:=by
 simp only [Act.put,Array.getD_eq_getD_getElem?,Array.getElem?_setIfInBounds]
 by_cases e:d = s
 ·subst e;simp [hd]
 ·simp [e,Ne.symm e]
theorem writer_dst {s i:Nat} (h:writer l n s = some i):i < n ∧ dstAt l i = some s:=by
 have h1:=List.mem_of_find?_eq_some h
 have h2:=List.find?_some h
 exact ⟨List.mem_range.1 h1,by simpa using h2⟩
theorem writer_some {i s:Nat} (hi:i < n) (h:dstAt l i = some s):writer l n s ≠ none:=by
 intro e
 have:=List.find?_eq_none.1 e i (List.mem_range.2 hi)
 simp [h] at this
theorem CInv.step (hB:concB l n N = true) (hN:a0.tmps.size = N)
  (hmono:∀ i x w w',i < n → E w w' → φ i x w → φ i x w')
  (hstep:∀ i o,i < n → l[i]? = some o → ∀ (a:Act) (w:World) (k:Nat),k < n → J k w → (∀ s ∈ tmpsOf o,known l n a0.tmps φ s (a.tmps.getD s undef) w) → OpV P o a.eval w fun v w' => φ i v w' ∧ J (k + 1) w' ∧ E w w')
  {k:Nat} (hk:k < n) {listed:Array Bool} {a:Act} {w:World} (h:CInv l n a0 φ J k listed a w) {i:Nat} (hr:i ∈ Region.ready .any l.toArray listed) (hi:i < n) :
  wpOp P l.toArray Q i (fun a' w' => CInv l n a0 φ J (k + 1) (listed.setIfInBounds i true) a' w') a w:=by
 obtain ⟨o,d,ho,hg,hd,hdN,hw,haft,hdep⟩:=concB_at hB hi
 have ho':l.toArray[i]? = some o:=by simpa using ho
 have hwant:Region.wanted o (yielded l.toArray a.tmps) = true:=by simp [Region.wanted,hg]
 unfold wpOp
 rw [ho']
 simp only [hwant,if_true]
 left
 refine OpV.wp (hstep i o hi ho a w k hk h.world ?_) ?_
 ·intro s hs
  unfold known
  cases hws:writer l n s with
  | none => exact h.other s hws
  | some j =>
   obtain ⟨hj,hjd⟩:=writer_dst hws
   obtain ⟨_,oi,hoi,hall⟩:=mem_ready.1 hr
   obtain ⟨oj,hoj,e,he,hb,hon⟩:=Region.waitsFor_spec (hdep s hs j hws)
   have:oj = oi:=Option.some.inj (hoj.symm.trans hoi)
   subst this
   have hl:=hall e he hb
   rw [hon] at hl
   exact h.done j s hj hl hjd
 ·rintro v w' ⟨h1,h2,h3⟩
  have hda:d < a.tmps.size:=by rw [h.size,hN];exact hdN
  rw [hd]
  refine ⟨h.head.set hr hi,h2,h.defers,by simp [Act.put,h.size],?_,?_⟩
  ·intro s hs
   rw [getD_put hda]
   have:s ≠ d:=by rintro rfl;rw [hw] at hs;cases hs
   rw [if_neg this]
   exact h.other s hs
  ·intro j s hj hl hjs
   rw [getD_put hda]
   by_cases e:s = d
   ·subst e
    rw [if_pos rfl]
    have hw2:writer l n s = some j:=by
     obtain ⟨oj,dj,hoj,_,hdj,_,hwj,_⟩:=concB_at hB hj
     have:dj = s:=by simp only [dstAt,hoj,Option.bind_some,hdj] at hjs;injection hjs
     rw [← this];exact hwj
    rw [hw] at hw2
    injection hw2 with e2
    subst e2
    exact h1
   ·rw [if_neg e]
    have hne:i ≠ j:=by
     rintro rfl
     simp only [dstAt,ho,Option.bind_some,hd] at hjs
     injection hjs with e3
     exact e e3.symm
    rw [getD_set_ne false hne] at hl
    exact hmono j _ w w' hj h3 (h.done j s hj hl hjs)
theorem putAll_size (l:List Oper) (i:Nat) (x:Nat → Value) (a:Act):(putAll l i x a).tmps.size = a.tmps.size ∧ (putAll l i x a).defers = a.defers:=by
 induction l generalizing i a with
 | nil => exact ⟨rfl,rfl⟩
 | cons o l ih =>
  rw [putAll,(ih _ _).1,(ih _ _).2]
  cases o.dst <;> simp [Act.put]
theorem putAll_get (l:List Oper) (i:Nat) (x:Nat → Value) (a:Act) (s:Nat) (v:Value) (hs:s < a.tmps.size) (hv:∀ j,dstAt l j = some s → x (i + j) = v) (hn:(∀ j,dstAt l j ≠ some s) → a.tmps.getD s undef = v):(putAll l i x a).tmps.getD s undef = v:=by
 induction l generalizing i a with
 | nil => exact hn (fun j => by simp [dstAt])
 | cons o l ih =>
  rw [putAll]
  have hsz:(a.put o.dst (x i)).tmps.size = a.tmps.size:=by cases o.dst <;> simp [Act.put]
  refine ih (i + 1) _ (by rw [hsz];exact hs) (fun j hj => ?_) (fun hno => ?_)
  ·rw [show i + 1 + j = i + (j + 1) from by omega]
   exact hv (j + 1) (by simpa [dstAt] using hj)
  ·cases hd:o.dst with
   | none =>
    exact hn (fun j => by
     cases j with
     | zero => simp [dstAt,hd]
     | succ j => simpa [dstAt] using hno j)
   | some d =>
    by_cases e:d = s
    ·subst e
     rw [getD_put hs,if_pos rfl]
     exact hv 0 (by simp [dstAt,hd])
    ·have:(a.put (some d) (x i)).tmps.getD s undef = a.tmps.getD s undef:=by
      simp only [Act.put,Array.getD_eq_getD_getElem?,Array.getElem?_setIfInBounds]
      simp [e]
     rw [this]
     exact hn (fun j => by
      cases j with
      | zero => simp [dstAt,hd,e]
      | succ j => simpa [dstAt] using hno j)
theorem CInv.fin (hB:concB l n N = true) (hN:a0.tmps.size = N) {k:Nat} {listed:Array Bool} {a:Act} {w:World} (h:CInv l n a0 φ J k listed a w) (hall:∀ i,i < n → listed.getD i false = true) :
  ∃ x:Nat → Value,(∀ i,i < n → φ i (x i) w) ∧ a = putAll (l.take n) 0 x a0:=by
 refine ⟨fun i => a.tmps.getD ((dstAt l i).getD 0) undef,fun i hi => ?_,?_⟩
 ·obtain ⟨o,d,ho,_,hd,_⟩:=concB_at hB hi
  have hds:dstAt l i = some d:=by simp [dstAt,ho,hd]
  show φ i (a.tmps.getD ((dstAt l i).getD 0) undef) w
  rw [hds]
  exact h.done i d hi (hall i hi) hds
 ·have hs:=putAll_size (l.take n) 0 (fun i => a.tmps.getD ((dstAt l i).getD 0) undef) a0
  have htm:a.tmps = (putAll (l.take n) 0 (fun i => a.tmps.getD ((dstAt l i).getD 0) undef) a0).tmps:=by
   apply Array.ext
   ·rw [hs.1,h.size]
   ·intro s h1 h2
    have hdt:∀ j,dstAt (l.take n) j = some s → j < n ∧ dstAt l j = some s:=fun j hj => by
     unfold dstAt at hj ⊢
     rw [List.getElem?_take] at hj
     split at hj
     ·exact ⟨‹_›,hj⟩
     ·cases hj
    have:=putAll_get (l.take n) 0 (fun i => a.tmps.getD ((dstAt l i).getD 0) undef) a0 s (a.tmps.getD s undef) (by rw [← h.size];exact h1)
     (fun j hj => by rw [Nat.zero_add,(hdt j hj).2];rfl)
     (fun hno => by
      cases hw:writer l n s with
      | none => exact (h.other s hw).symm
      | some j =>
       obtain ⟨hj,hjd⟩:=writer_dst hw
       refine absurd ?_ (hno j)
       unfold dstAt at hjd ⊢
       rw [List.getElem?_take,if_pos hj]
       exact hjd)
    have e1:a.tmps.getD s undef = a.tmps[s]:=by simp [h1]
    rw [e1] at this
    rw [← this]
    generalize putAll (l.take n) 0 _ a0 = p at h2
    simp [h2]
  obtain ⟨tm,df⟩:=a
  have e2:=h.defers
  simp only at htm e2
  generalize hp:putAll (l.take n) 0 (fun i => tm.getD ((dstAt l i).getD 0) undef) a0 = p at htm hs ⊢
  obtain ⟨tm',df'⟩:=p
  simp only at htm hs
  rw [htm,e2,hs.2]
theorem allTrue_eq {listed:Array Bool} {m:Nat} (hs:listed.size = m) (h1:∀ i,i < n → listed.getD i false = true) (h2:∀ t,n ≤ t → t < m → listed.getD t true = false):listed = allTrue n m:=by
 apply Array.ext
 ·simp [allTrue,hs]
 ·intro i hi hj
  have him:i < m:=by omega
  simp only [allTrue,List.getElem_toArray,List.getElem_map,List.getElem_range]
  by_cases h:i < n
  ·have:=h1 i h
   simp [hi] at this
   simp [this,h]
  ·have:=h2 i (by omega) him
   simp [hi] at this
   simp [this,h]
theorem countP_set {listed:Array Bool} {i n:Nat} (hi:i < n) (hl:listed.getD i true = false):((List.range n).countP fun j => !listed.getD j true) = ((List.range n).countP fun j => !(listed.setIfInBounds i true).getD j true) + 1:=by
 have his:i < listed.size:=by
  rcases Nat.lt_or_ge i listed.size with h | h
  ·exact h
  ·simp [Array.getElem?_eq_none h] at hl
 induction n with
 | zero => omega
 | succ n ih =>
  rw [List.range_succ,List.countP_append,List.countP_append]
  by_cases e:i = n
  ·subst e
   have e1:((List.range i).countP fun j => !listed.getD j true) = ((List.range i).countP fun j => !(listed.setIfInBounds i true).getD j true):=by
    apply List.countP_congr
    intro j hj
    rw [getD_set_ne true (by have:=List.mem_range.1 hj;omega)]
   rw [e1]
   have e2:(listed.setIfInBounds i true).getD i true = true:=by simp [his]
   rw [List.countP_singleton,List.countP_singleton,hl,e2]
   rfl
  ·rw [ih (by omega)]
   have e2:(listed.setIfInBounds i true).getD n true = listed.getD n true:=getD_set_ne true e
   simp only [List.countP_singleton,e2]
   omega
theorem wpAny_conc (hB:concB l n N = true) (hN:a0.tmps.size = N)
  (hmono:∀ i x w w',i < n → E w w' → φ i x w → φ i x w')
  (hstep:∀ i o,i < n → l[i]? = some o → ∀ (a:Act) (w:World) (k:Nat),k < n → J k w → (∀ s ∈ tmpsOf o,known l n a0.tmps φ s (a.tmps.getD s undef) w) → OpV P o a.eval w fun v w' => φ i v w' ∧ J (k + 1) w' ∧ E w w')
  (hend:∀ (x:Nat → Value) (w':World),J n w' → (∀ i,i < n → φ i (x i) w') → wpList P l.toArray Q (l.drop n) (putAll (l.take n) 0 x a0) w') :
  ∀ (c:Nat) (listed:Array Bool) (a:Act) (w:World),c ≤ n → CInv l n a0 φ J (n - c) listed a w → ((List.range n).countP fun j => !listed.getD j true) = c → wpAny P .any l.toArray Q (c + (l.length - n)) listed a w:=by
 have hB':=hB
 simp only [concB,Bool.and_eq_true,decide_eq_true_eq] at hB'
 obtain ⟨⟨⟨⟨hn,hsink⟩,hchain⟩,hseq⟩,_⟩:=hB'
 intro c
 induction c with
 | zero =>
  intro listed a w hcn h hc
  have hall:∀ i,i < n → listed.getD i false = true:=fun i hi => by
   have:=List.countP_eq_zero.1 hc i (List.mem_range.2 hi)
   have hsz:=h.head.size
   have his:i < listed.size:=by rw [hsz];simp;omega
   simp [his] at this ⊢
   exact this
  obtain ⟨x,hx,rfl⟩:=h.fin hB hN hall
  have he:=allTrue_eq (n:=n) (m:=l.length) (by rw [h.head.size];simp) hall (fun t h1 h2 => h.head.tail t h1 (by simpa using h2))
  have:=wpAny_of_seq (P:=P) (ops:=l.toArray) (md:=.any) (Q':=Q) (l.drop n) n listed (putAll (l.take n) 0 x a0) w (fun j => by simp [List.getElem?_drop]) (by rw [List.length_drop,he];exact hseq) (hend x w h.world hx)
  rw [List.length_drop] at this
  rw [Nat.zero_add]
  exact this
 | succ c ih =>
  intro listed a w hcn h hc
  have hex:∃ i,i < n ∧ listed.getD i true = false:=by
   have:0 < (List.range n).countP fun j => !listed.getD j true:=by omega
   obtain ⟨i,hi,hl⟩:=List.countP_pos_iff.1 this
   exact ⟨i,List.mem_range.1 hi,by simpa using hl⟩
  have hne:Region.ready .any l.toArray listed ≠ []:=by
   have:∀ m i,i < n → i ≤ m → listed.getD i true = false → ∃ k,k ∈ Region.ready .any l.toArray listed:=by
    intro m
    induction m with
    | zero =>
     intro i hi hm hl
     obtain rfl:i = 0:=by omega
     obtain ⟨o,d,ho,_,_,_,_,haft,_⟩:=concB_at hB hi
     refine ⟨0,mem_ready.2 ⟨hl,o,by simpa using ho,fun e he hb => ?_⟩⟩
     have:=haft e he hb
     omega
    | succ m ihm =>
     intro i hi hm hl
     obtain ⟨o,d,ho,_,_,_,_,haft,_⟩:=concB_at hB hi
     by_cases hd:∀ e ∈ o.after,Region.binds .any e = true → listed.getD e.on false = true
     ·exact ⟨i,mem_ready.2 ⟨hl,o,by simpa using ho,hd⟩⟩
     ·obtain ⟨e,hd⟩:=Classical.not_forall.1 hd
      obtain ⟨he,hd⟩:=Classical.not_forall.1 hd
      obtain ⟨hb,hd⟩:=Classical.not_forall.1 hd
      have hlt:=haft e he hb
      have hes:e.on < listed.size:=by rw [h.head.size];simp;omega
      exact ihm e.on (by omega) (by omega) (getD_in hes (by simpa using hd))
   obtain ⟨i,hi,hl⟩:=hex
   obtain ⟨k,hk⟩:=this i i hi (Nat.le_refl _) hl
   intro e
   rw [e] at hk
   cases hk
  rw [show c + 1 + (l.length - n) = (c + (l.length - n)) + 1 from by omega]
  refine ⟨fun e => absurd e hne,fun i hi => ?_⟩
  obtain ⟨k,hk,hkl⟩:=hex
  have hin:i < n:=by
   rcases Nat.lt_or_ge i n with h' | h'
   ·exact h'
   ·exact absurd hi (tail_waits hsink hchain (by simpa using hn) h.head (n - k) k rfl hk hkl i h')
  refine wpOp_mono (fun a' w' h' => ih _ _ _ (by omega) (by rw [show n - (c + 1) + 1 = n - c from by omega] at h';exact h') ?_) (CInv.step hB hN hmono hstep (by omega) h hi hin)
  have hl:=(mem_ready.1 hi).1
  have:=countP_set hin hl
  omega
theorem wp_region_conc {id:Nat} {w:World} (n N:Nat) (φ:Nat → Value → World → Prop) (J:Nat → World → Prop) (E:World → World → Prop) (hm:P.follows .mixedOrders = true) (hB:concB l n N = true) (hN:a0.tmps.size = N)
  (hJ:J 0 w.drew) (hmono:∀ i x w w',i < n → E w w' → φ i x w → φ i x w')
  (hstep:∀ i o,i < n → l[i]? = some o → ∀ (a:Act) (w:World) (k:Nat),k < n → J k w → (∀ s ∈ tmpsOf o,known l n a0.tmps φ s (a.tmps.getD s undef) w) → OpV P o a.eval w fun v w' => φ i v w' ∧ J (k + 1) w' ∧ E w w')
  (hend:∀ (x:Nat → Value) (w':World),J n w' → (∀ i,i < n → φ i (x i) w') → wpList P l.toArray Q (l.drop n) (putAll (l.take n) 0 x a0) w') :
  (Code.region id l.toArray true).wp P Q a0 w:=by
 refine wp_region_any hm ?_
 have hn:n < l.length:=by
  simp only [concB,Bool.and_eq_true,decide_eq_true_eq] at hB
  exact hB.1.1.1.1
 have h0:CInv l n a0 φ J (n - n) (Array.replicate l.toArray.size false) a0 w.drew:=by
  refine ⟨⟨by simp,fun j oj _ hl => (by rw [getD_replicate_false] at hl;cases hl),fun t _ ht => getD_in (by simpa using ht) (getD_replicate_false _ _)⟩,by rw [Nat.sub_self];exact hJ,rfl,rfl,fun _ _ => rfl,fun i s _ hl => by rw [getD_replicate_false] at hl;cases hl⟩
 have hc:((List.range n).countP fun j => !(Array.replicate l.toArray.size false).getD j true) = n:=by
  have:((List.range n).countP fun j => !(Array.replicate l.toArray.size false).getD j true) = (List.range n).length:=by
   rw [List.countP_eq_length]
   intro j hj
   have:=List.mem_range.1 hj
   have h2:j < l.length:=by omega
   simp [h2]
  rw [this,List.length_range]
 have:=wpAny_conc (Q:=Q) hB hN hmono hstep hend n _ _ _ (Nat.le_refl _) h0 hc
 rw [show n + (l.length - n) = l.toArray.size from by simp;omega] at this
 exact this
end
end Go.Proofs.YtfmnlpmgakgleaaGreatDoor
