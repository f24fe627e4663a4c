/- Texts of this claim, put together: Key, Idx, Conc, Det. -/
import Derived.Test.YtcncifmanodabaaGreatDoorGAB
import Derived.StillTail
import Derived.Below
import Derived.Lib.Hide
namespace Go.Proofs.YtcncifmanodabaaGreatDoor
set_option linter.unusedVariables false
open Go.RowKit
theorem ret_bool' {a b:Bool} (h:a = b):Ending.returned (.bool a) = .returned (.bool b):=by rw [h]
def smallB (c:UInt8):Bool:=decide ((97:Int) ≤ c.toNat) && decide ((c.toNat:Int) ≤ 122)
def digitB (c:UInt8):Bool:=decide ((48:Int) ≤ c.toNat) && decide ((c.toNat:Int) ≤ 57)
def keyC (c:UInt8):Bool:=smallB c || digitB c || ((c.toNat:Int) == 45) || ((c.toNat:Int) == 95)
def allB (p:UInt8 → Bool) (s:ByteArray):Bool:=s.data.toList.all p
def isKey (s:ByteArray):Bool:=decide (1 ≤ s.size ∧ s.size ≤ 40) && ((s.data.toList.head?.map smallB).getD false && allB keyC s)
theorem isKey_size {s:ByteArray} (h:isKey s = true):1 ≤ s.size ∧ s.size ≤ 40:=by simp [isKey] at h;exact h.1
set_option maxHeartbeats 400000 in
theorem pwithin_any (n l h:Int) (w:World):Calls Tryz.prog 78 #[.int .i64 n,.int .i64 l,.int .i64 h] w fun e w' => e = .returned (.bool (decide (l ≤ n) && decide (n ≤ h))) ∧ w = w':=by
 by_cases h1:l ≤ n
 ·go_enter Tryz.func78,Tryz.ntmps78
  go_wp2
  go_ret
  exact ⟨by simp [h1],rfl⟩
 ·go_enter Tryz.func78,Tryz.ntmps78
  go_wp2
  go_ret
  exact ⟨by simp;omega,rfl⟩
theorem small_any (c:UInt8) (w:World):Calls Tryz.prog 79 #[.int .u8 (c.toNat:Int)] w fun e w' => e = .returned (.bool (smallB c)) ∧ w = w':=by
 unfold smallB
 generalize (c.toNat:Int) = n
 by_cases h1:97 ≤ n
 ·go_enter Tryz.func79,Tryz.ntmps79
  go_wp2
  go_ret
  exact ⟨by simp [h1],rfl⟩
 ·go_enter Tryz.func79,Tryz.ntmps79
  go_wp2
  go_ret
  exact ⟨by simp;omega,rfl⟩
theorem digit_any (c:UInt8) (w:World):Calls Tryz.prog 82 #[.int .u8 (c.toNat:Int)] w fun e w' => e = .returned (.bool (digitB c)) ∧ w = w':=by
 unfold digitB
 generalize (c.toNat:Int) = n
 by_cases h1:48 ≤ n
 ·go_enter Tryz.func82,Tryz.ntmps82
  go_wp2
  go_ret
  exact ⟨by simp [h1],rfl⟩
 ·go_enter Tryz.func82,Tryz.ntmps82
  go_wp2
  go_ret
  exact ⟨by simp;omega,rfl⟩
set_option maxHeartbeats 400000 in
theorem keyC_any (c:UInt8) (w:World):Calls Tryz.prog 81 #[.int .u8 (c.toNat:Int)] w fun e w' => e = .returned (.bool (keyC c)) ∧ w = w':=by
 go_enter Tryz.func81,Tryz.ntmps81
 go_wp2_with fail
 refine (small_any c _).mono ?_
 rintro e w' ⟨rfl,rfl⟩
 generalize hs:smallB c = q1
 have HS:=Lib.hid hs
 clear hs
 cases q1 with
 | true =>
  go_wp2_with fail
  go_ret
  exact ⟨ret_bool' (by unfold keyC;rw [HS.out];rfl),rfl⟩
 | false =>
  go_wp2_with fail
  refine (digit_any c _).mono ?_
  rintro e w' ⟨rfl,rfl⟩
  generalize hd:digitB c = q2
  have HD:=Lib.hid hd
  clear hd
  cases q2 with
  | true =>
   go_wp2_with fail
   go_ret
   exact ⟨ret_bool' (by unfold keyC;rw [HS.out,HD.out];rfl),rfl⟩
  | false =>
   cases h:((c.toNat:Int) == 45) with
   | true =>
    have HN:=Lib.hid h
    go_wp2_with fail
    go_ret
    exact ⟨ret_bool' (by unfold keyC;rw [HS.out,HD.out,HN.out];rfl),rfl⟩
   | false =>
    have HN:=Lib.hid h
    go_wp2_with fail
    go_ret
    exact ⟨ret_bool' (by unfold keyC;rw [HS.out,HD.out,HN.out];rfl),rfl⟩
theorem take_snoc' (s:ByteArray) (k:Nat) (h:k < s.size):s.data.toList.take (k + 1) = s.data.toList.take k ++ [s[k]]:=by
 rw [List.take_succ_eq_append_getElem (by simpa using h)];rfl
set_option maxHeartbeats 400000 in
theorem all_any (k:Nat) (p:UInt8 → Bool) (hp:∀ (c:UInt8) (W:World),Calls Tryz.prog k #[.int .u8 (c.toNat:Int)] W fun e W' => e = .returned (.bool (p c)) ∧ W = W')
  (hcall:∀ (a:Value) (W:World),(callFunc k #[a]).run Tryz.prog W = .ok (.enter k #[a]) W) (s:ByteArray) (w:World) (hs:s.size ≤ 1000000000) :
  Calls Tryz.prog 80 #[.string s,.func (.func k) #[] #[]] w fun e w' => e = .returned (.bool (allB p s)) ∧ w = w':=by
 have HP:=Lib.hid hp
 clear hp
 go_enter Tryz.func80,Tryz.ntmps80
 go_wp2_with fail
 go_loop [8] (fun t => ∃ i:Nat,i ≤ s.size ∧ t = .int .i64 i ∧ Hid ((s.data.toList.take i).all p = true)) (fun t => s.size - (intOf t).toNat)
 case atStart => exact ⟨0,by omega,rfl,rfl⟩
 case round =>
  obtain ⟨i,hi,rfl,hall⟩:=hrel
  by_cases hlt:i < s.size
  ·have ht:=Lib.hid (take_snoc' s i hlt)
   have hm:Hid (s[i] ∈ s.data.toList):=by show s.data[i] ∈ _;simp
   go_wp2_with fail
   refine (HP.out s[i] _).mono ?_
   rintro e w' ⟨rfl,rfl⟩
   generalize s[i] = c at ht hm ⊢
   cases hc:p c with
   | false =>
    have HC:=Lib.hid hc
    clear hc
    go_wp2_with fail
    go_ret
    refine ⟨ret_bool' ?_,rfl⟩
    cases e:allB p s with
    | false => rfl
    | true => have:=List.all_eq_true.1 e _ hm.out;rw [HC.out] at this;cases this
   | true =>
    have HC:=Lib.hid hc
    clear hc
    go_wp2_with fail
    go_round
    case rel => exact ⟨i + 1,by omega,by go_num,by show _ = true;rw [ht.out,List.all_append,hall.out];simp [HC.out]⟩
    case measure => simp [intOf];omega
  ·go_wp2_with fail
   go_ret
   refine ⟨ret_bool' ?_,rfl⟩
   have:=hall.out
   rw [List.take_of_length_le (by simp;omega)] at this
   exact this.symm
set_option maxHeartbeats 400000 in
theorem isKey_any (s:ByteArray) (w:World) (hs:s.size ≤ 1000000000) :
  Calls Tryz.prog 47 #[.string s] w fun e w' => e = .returned (.bool (isKey s)) ∧ w = w':=by
 by_cases h1:1 ≤ s.size ∧ s.size ≤ 40
 ·have h2:(decide ((1:Int) ≤ (s.size:Int)) && decide ((s.size:Int) ≤ 40)) = true:=by simp;omega
  have h0:0 < s.size:=by omega
  have H2:=Lib.hid h2
  have hh:Hid (isKey s = (smallB s[0] && allB keyC s)):=by
   show _ = _
   have:s.data.toList.head? = some s[0]:=by
    rw [List.head?_eq_getElem?,List.getElem?_eq_getElem (by simpa using h0)];rfl
   unfold isKey
   rw [this,decide_eq_true h1];simp
  clear h2
  go_enter Tryz.func47,Tryz.ntmps47
  go_wp2_with fail
  refine (pwithin_any _ _ _ _).mono ?_
  rintro e w' ⟨rfl,rfl⟩
  rw [H2.out]
  go_wp2_with fail
  refine (small_any s[0] _).mono ?_
  rintro e w' ⟨rfl,rfl⟩
  generalize smallB s[0] = q at hh
  cases q with
  | false =>
   go_wp2_with fail
   go_ret
   exact ⟨ret_bool' (hh.out.trans (Bool.false_and _)).symm,rfl⟩
  | true =>
   go_wp2_with fail
   refine (all_any 81 keyC keyC_any (fun _ _ => by kernel_rfl) s _ hs).mono ?_
   rintro e w' ⟨rfl,rfl⟩
   generalize allB keyC s = q at hh
   go_wp2_with fail
   go_ret
   exact ⟨ret_bool' (hh.out.trans (Bool.true_and _)).symm,rfl⟩
 ·have h2:(decide ((1:Int) ≤ (s.size:Int)) && decide ((s.size:Int) ≤ 40)) = false:=by simp;omega
  have H2:=Lib.hid h2
  have hh:Hid (isKey s = false):=by show _ = _;unfold isKey;rw [decide_eq_false h1];rfl
  clear h2
  go_enter Tryz.func47,Tryz.ntmps47
  go_wp2_with fail
  refine (pwithin_any _ _ _ _).mono ?_
  rintro e w' ⟨rfl,rfl⟩
  rw [H2.out]
  go_wp2_with fail
  go_ret
  exact ⟨ret_bool' hh.out.symm,rfl⟩
open Go.RowKit
section
variable {D:Type}
def idxF (p:D → Bool) (ds:List D):Int:=match ds.findIdx? p with | some i => (i:Int) | none => -1
def anyF (p:D → Bool) (ds:List D):Bool:=ds.any p
theorem idxF_none {p:D → Bool} {ds:List D} (h:ds.any p = false):idxF p ds = -1:=by
 have:ds.findIdx? p = none:=by
  rw [List.findIdx?_eq_none_iff]
  intro x hx
  have:=List.any_eq_false.1 h x hx
  simpa using this
 simp [idxF,this]
theorem idxF_found {p:D → Bool} {ds:List D} {i:Nat} (hi:i < ds.length) (h:(ds.take i).any p = false):p ds[i] = true → idxF p ds = i:=by
 intro hp
 have:ds.findIdx? p = some i:=by
  rw [List.findIdx?_eq_some_iff_getElem]
  refine ⟨hi,hp,fun j hj => ?_⟩
  have hm:ds[j] ∈ ds.take i:=List.mem_take_iff_getElem.2 ⟨j,by omega,rfl⟩
  have:=List.any_eq_false.1 h _ hm
  simpa using this
 simp [idxF,this]
theorem any_take_succ {p:D → Bool} {ds:List D} {i:Nat} (hi:i < ds.length) (h:(ds.take i).any p = false):p ds[i] = false → (ds.take (i + 1)).any p = false:=by
 intro hp
 rw [List.take_succ_eq_append_getElem hi,List.any_append,h]
 simp [hp]
theorem idxF_any (p:D → Bool) (ds:List D):decide (0 ≤ idxF p ds) = anyF p ds:=by
 unfold anyF
 cases h:ds.any p with
 | false => rw [idxF_none h];rfl
 | true =>
  unfold idxF
  cases e:ds.findIdx? p with
  | none =>
   have:=List.findIdx?_eq_none_iff.1 e
   obtain ⟨x,hx,hp⟩:=List.any_eq_true.1 h
   have h2:=this x hx
   rw [hp] at h2
   cases h2
  | some i => simp
end
open Go.RowKit
def OpV (P:Program) (o:Oper) (ev:Operand → Value) (w:World) (R:Value → World → Prop):Prop :=
 match (execOp ev o).run P w with
 | .ok (.value v) w' => R v w'
 | .ok .skip w' => R undef w'
 | .ok (.enter f args) w' => Calls P f args w' fun e w'' => ∃ v,e = .returned v ∧ R v w''
 | _ => False
theorem OpV.wp {P:Program} {o:Oper} {a:Act} {w:World} {R:Value → World → Prop} {K:Act → World → Prop} {Q:Exit → Act → World → Prop} (h:OpV P o a.eval w R) (hK:∀ v w',R v w' → K (a.put o.dst v) w'):o.wp P a w K Q:=by
 unfold Oper.wp
 unfold OpV at h
 generalize (execOp a.eval o).run P w = r at h ⊢
 cases r with
 | halt x w' => cases h
 | ok n w' =>
  cases n with
  | value v => exact hK _ _ h
  | skip => exact hK _ _ h
  | enter f args =>
   refine Calls.mono h ?_
   rintro e w'' ⟨v,rfl,hR⟩
   exact hK _ _ hR
  | defer d => cases h
  | row r xs => cases h
  | _ => cases h
def dstAt (l:List Oper) (i:Nat):Option Tmp:=(l[i]?).bind (·.dst)
def writer (l:List Oper) (n s:Nat):Option Nat:=(List.range n).find? fun i => dstAt l i == some s
def known (l:List Oper) (n:Nat) (T:Array Value) (φ:Nat → Value → World → Prop) (s:Nat) (x:Value) (w:World):Prop :=
 match writer l n s with
 | some j => φ j x w
 | none => x = T.getD s undef
def tmpsOf (o:Oper):List Nat:=o.op.operands.toList.filterMap fun | .tmp t => some t | _ => none
def allTrue (n m:Nat):Array Bool:=((List.range m).map fun t => decide (t < n)).toArray
def concB (l:List Oper) (n N:Nat):Bool :=
 decide (n < l.length) && Region.sinkB .any l.toArray n && Region.chainB .any l.toArray n && Region.seqB .any l.toArray (l.length - n) n (allTrue n l.length) &&
 ((List.range n).all fun i => match l[i]? with
  | some o => o.guard.isNone && (match o.dst with | some d => decide (d < N) && decide (writer l n d = some i) | none => false) &&
    (o.after.toList.all fun e => !Region.binds .any e || decide (e.on < i)) &&
    ((tmpsOf o).all fun s => match writer l n s with | some j => Region.waitsFor .any l.toArray i j | none => true)
  | none => false)
def putAll:List Oper → Nat → (Nat → Value) → Act → Act
 | [],_,_,a => a
 | o :: l,i,x,a => putAll l (i + 1) x (a.put o.dst (x i))
section
variable {P:Program} {l:List Oper} {n N:Nat} {a0:Act} {φ:Nat → Value → World → Prop} {J:Nat → World → Prop} {E:World → World → Prop} {Q:Exit → Act → World → Prop}
theorem concB_at (h:concB l n N = true) {i:Nat} (hi:i < n):∃ o d,l[i]? = some o ∧ o.guard = none ∧ o.dst = some d ∧ d < N ∧ writer l n d = some i ∧ (∀ e ∈ o.after,Region.binds .any e = true → e.on < i) ∧ ∀ s ∈ tmpsOf o,∀ j,writer l n s = some j → Region.waitsFor .any l.toArray i j = true:=by
 simp only [concB,Bool.and_eq_true] at h
 have h1:=List.all_eq_true.1 h.2 i (List.mem_range.2 hi)
 cases ho:l[i]? with
 | none => rw [ho] at h1;cases h1
 | some o =>
  rw [ho] at h1
  simp only [Bool.and_eq_true] at h1
  obtain ⟨⟨⟨g1,g2⟩,g3⟩,g4⟩:=h1
  cases hd:o.dst with
  | none => rw [hd] at g2;cases g2
  | some d =>
   rw [hd] at g2
   simp only [Bool.and_eq_true,decide_eq_true_eq] at g2
   refine ⟨o,d,rfl,by simpa using g1,hd,g2.1,g2.2,?_,?_⟩
   ·intro e he hb
    have:=List.all_eq_true.1 g3 e (by simpa using he)
    simpa [hb] using this
   ·intro s hs j hj
    have:=List.all_eq_true.1 g4 s hs
    rw [hj] at this
    exact this
structure CInv (l:List Oper) (n:Nat) (a0:Act) (φ:Nat → Value → World → Prop) (J:Nat → World → Prop) (k:Nat) (listed:Array Bool) (a:Act) (w:World):Prop where
 head:HeadInv .any l.toArray n listed
 world:J k w
 defers:a.defers = a0.defers
 size:a.tmps.size = a0.tmps.size
 other:∀ s,writer l n s = none → a.tmps.getD s undef = a0.tmps.getD s undef
 done:∀ i s,i < n → listed.getD i false = true → dstAt l i = some s → φ i (a.tmps.getD s undef) w
theorem getD_put {a:Act} {d s:Nat} {v:Value} (hd:d < a.tmps.size):(a.put (some d) v).tmps.getD s undef = if s = d then v else a.tmps.getD s undef:=by
 simp only [Act.put,Array.getD_eq_getD_getElem?,Array.getElem?_setIfInBounds]
 by_cases e:d = s
 ·subst e;simp [hd]
 ·simp [e,Ne.symm e]
theorem writer_dst {s i:Nat} (h:writer l n s = some i):i < n ∧ dstAt l i = some s:=by
 have h1:=List.mem_of_find?_eq_some h
 have h2:=List.find?_some h
 exact ⟨List.mem_range.1 h1,by simpa using h2⟩
theorem writer_some {i s:Nat} (hi:i < n) (h:dstAt l i = some s):writer l n s ≠ none:=by
 intro e
 have:=List.find?_eq_none.1 e i (List.mem_range.2 hi)
 simp [h] at this
theorem CInv.step (hB:concB l n N = true) (hN:a0.tmps.size = N)
  (hmono:∀ i x w w',i < n → E w w' → φ i x w → φ i x w')
  (hstep:∀ i o,i < n → l[i]? = some o → ∀ (a:Act) (w:World) (k:Nat),k < n → J k w → (∀ s ∈ tmpsOf o,known l n a0.tmps φ s (a.tmps.getD s undef) w) → OpV P o a.eval w fun v w' => φ i v w' ∧ J (k + 1) w' ∧ E w w')
  {k:Nat} (hk:k < n) {listed:Array Bool} {a:Act} {w:World} (h:CInv l n a0 φ J k listed a w) {i:Nat} (hr:i ∈ Region.ready .any l.toArray listed) (hi:i < n) :
  wpOp P l.toArray Q i (fun a' w' => CInv l n a0 φ J (k + 1) (listed.setIfInBounds i true) a' w') a w:=by
 obtain ⟨o,d,ho,hg,hd,hdN,hw,haft,hdep⟩:=concB_at hB hi
 have ho':l.toArray[i]? = some o:=by simpa using ho
 have hwant:Region.wanted o (yielded l.toArray a.tmps) = true:=by simp [Region.wanted,hg]
 unfold wpOp
 rw [ho']
 simp only [hwant,if_true]
 left
 refine OpV.wp (hstep i o hi ho a w k hk h.world ?_) ?_
 ·intro s hs
  unfold known
  cases hws:writer l n s with
  | none => exact h.other s hws
  | some j =>
   obtain ⟨hj,hjd⟩:=writer_dst hws
   obtain ⟨_,oi,hoi,hall⟩:=mem_ready.1 hr
   obtain ⟨oj,hoj,e,he,hb,hon⟩:=Region.waitsFor_spec (hdep s hs j hws)
   have:oj = oi:=Option.some.inj (hoj.symm.trans hoi)
   subst this
   have hl:=hall e he hb
   rw [hon] at hl
   exact h.done j s hj hl hjd
 ·rintro v w' ⟨h1,h2,h3⟩
  have hda:d < a.tmps.size:=by rw [h.size,hN];exact hdN
  rw [hd]
  refine ⟨h.head.set hr hi,h2,h.defers,by simp [Act.put,h.size],?_,?_⟩
  ·intro s hs
   rw [getD_put hda]
   have:s ≠ d:=by rintro rfl;rw [hw] at hs;cases hs
   rw [if_neg this]
   exact h.other s hs
  ·intro j s hj hl hjs
   rw [getD_put hda]
   by_cases e:s = d
   ·subst e
    rw [if_pos rfl]
    have hw2:writer l n s = some j:=by
     obtain ⟨oj,dj,hoj,_,hdj,_,hwj,_⟩:=concB_at hB hj
     have:dj = s:=by simp only [dstAt,hoj,Option.bind_some,hdj] at hjs;injection hjs
     rw [← this];exact hwj
    rw [hw] at hw2
    injection hw2 with e2
    subst e2
    exact h1
   ·rw [if_neg e]
    have hne:i ≠ j:=by
     rintro rfl
     simp only [dstAt,ho,Option.bind_some,hd] at hjs
     injection hjs with e3
     exact e e3.symm
    rw [getD_set_ne false hne] at hl
    exact hmono j _ w w' hj h3 (h.done j s hj hl hjs)
theorem putAll_size (l:List Oper) (i:Nat) (x:Nat → Value) (a:Act):(putAll l i x a).tmps.size = a.tmps.size ∧ (putAll l i x a).defers = a.defers:=by
 induction l generalizing i a with
 | nil => exact ⟨rfl,rfl⟩
 | cons o l ih =>
  rw [putAll,(ih _ _).1,(ih _ _).2]
  cases o.dst <;> simp [Act.put]
theorem putAll_get (l:List Oper) (i:Nat) (x:Nat → Value) (a:Act) (s:Nat) (v:Value) (hs:s < a.tmps.size) (hv:∀ j,dstAt l j = some s → x (i + j) = v) (hn:(∀ j,dstAt l j ≠ some s) → a.tmps.getD s undef = v):(putAll l i x a).tmps.getD s undef = v:=by
 induction l generalizing i a with
 | nil => exact hn (fun j => by simp [dstAt])
 | cons o l ih =>
  rw [putAll]
  have hsz:(a.put o.dst (x i)).tmps.size = a.tmps.size:=by cases o.dst <;> simp [Act.put]
  refine ih (i + 1) _ (by rw [hsz];exact hs) (fun j hj => ?_) (fun hno => ?_)
  ·rw [show i + 1 + j = i + (j + 1) from by omega]
   exact hv (j + 1) (by simpa [dstAt] using hj)
  ·cases hd:o.dst with
   | none =>
    exact hn (fun j => by
     cases j with
     | zero => simp [dstAt,hd]
     | succ j => simpa [dstAt] using hno j)
   | some d =>
    by_cases e:d = s
    ·subst e
     rw [getD_put hs,if_pos rfl]
     exact hv 0 (by simp [dstAt,hd])
    ·have:(a.put (some d) (x i)).tmps.getD s undef = a.tmps.getD s undef:=by
      simp only [Act.put,Array.getD_eq_getD_getElem?,Array.getElem?_setIfInBounds]
      simp [e]
     rw [this]
     exact hn (fun j => by
      cases j with
      | zero => simp [dstAt,hd,e]
      | succ j => simpa [dstAt] using hno j)
theorem CInv.fin (hB:concB l n N = true) (hN:a0.tmps.size = N) {k:Nat} {listed:Array Bool} {a:Act} {w:World} (h:CInv l n a0 φ J k listed a w) (hall:∀ i,i < n → listed.getD i false = true) :
  ∃ x:Nat → Value,(∀ i,i < n → φ i (x i) w) ∧ a = putAll (l.take n) 0 x a0:=by
 refine ⟨fun i => a.tmps.getD ((dstAt l i).getD 0) undef,fun i hi => ?_,?_⟩
 ·obtain ⟨o,d,ho,_,hd,_⟩:=concB_at hB hi
  have hds:dstAt l i = some d:=by simp [dstAt,ho,hd]
  show φ i (a.tmps.getD ((dstAt l i).getD 0) undef) w
  rw [hds]
  exact h.done i d hi (hall i hi) hds
 ·have hs:=putAll_size (l.take n) 0 (fun i => a.tmps.getD ((dstAt l i).getD 0) undef) a0
  have htm:a.tmps = (putAll (l.take n) 0 (fun i => a.tmps.getD ((dstAt l i).getD 0) undef) a0).tmps:=by
   apply Array.ext
   ·rw [hs.1,h.size]
   ·intro s h1 h2
    have hdt:∀ j,dstAt (l.take n) j = some s → j < n ∧ dstAt l j = some s:=fun j hj => by
     unfold dstAt at hj ⊢
     rw [List.getElem?_take] at hj
     split at hj
     ·exact ⟨‹_›,hj⟩
     ·cases hj
    have:=putAll_get (l.take n) 0 (fun i => a.tmps.getD ((dstAt l i).getD 0) undef) a0 s (a.tmps.getD s undef) (by rw [← h.size];exact h1)
     (fun j hj => by rw [Nat.zero_add,(hdt j hj).2];rfl)
     (fun hno => by
      cases hw:writer l n s with
      | none => exact (h.other s hw).symm
      | some j =>
       obtain ⟨hj,hjd⟩:=writer_dst hw
       refine absurd ?_ (hno j)
       unfold dstAt at hjd ⊢
       rw [List.getElem?_take,if_pos hj]
       exact hjd)
    have e1:a.tmps.getD s undef = a.tmps[s]:=by simp [h1]
    rw [e1] at this
    rw [← this]
    generalize putAll (l.take n) 0 _ a0 = p at h2
    simp [h2]
  obtain ⟨tm,df⟩:=a
  have e2:=h.defers
  simp only at htm e2
  generalize hp:putAll (l.take n) 0 (fun i => tm.getD ((dstAt l i).getD 0) undef) a0 = p at htm hs ⊢
  obtain ⟨tm',df'⟩:=p
  simp only at htm hs
  rw [htm,e2,hs.2]
theorem allTrue_eq {listed:Array Bool} {m:Nat} (hs:listed.size = m) (h1:∀ i,i < n → listed.getD i false = true) (h2:∀ t,n ≤ t → t < m → listed.getD t true = false):listed = allTrue n m:=by
 apply Array.ext
 ·simp [allTrue,hs]
 ·intro i hi hj
  have him:i < m:=by omega
  simp only [allTrue,List.getElem_toArray,List.getElem_map,List.getElem_range]
  by_cases h:i < n
  ·have:=h1 i h
   simp [hi] at this
   simp [this,h]
  ·have:=h2 i (by omega) him
   simp [hi] at this
   simp [this,h]
theorem countP_set {listed:Array Bool} {i n:Nat} (hi:i < n) (hl:listed.getD i true = false):((List.range n).countP fun j => !listed.getD j true) = ((List.range n).countP fun j => !(listed.setIfInBounds i true).getD j true) + 1:=by
 have his:i < listed.size:=by
  rcases Nat.lt_or_ge i listed.size with h | h
  ·exact h
  ·simp [Array.getElem?_eq_none h] at hl
 induction n with
 | zero => omega
 | succ n ih =>
  rw [List.range_succ,List.countP_append,List.countP_append]
  by_cases e:i = n
  ·subst e
   have e1:((List.range i).countP fun j => !listed.getD j true) = ((List.range i).countP fun j => !(listed.setIfInBounds i true).getD j true):=by
    apply List.countP_congr
    intro j hj
    rw [getD_set_ne true (by have:=List.mem_range.1 hj;omega)]
   rw [e1]
   have e2:(listed.setIfInBounds i true).getD i true = true:=by simp [his]
   rw [List.countP_singleton,List.countP_singleton,hl,e2]
   rfl
  ·rw [ih (by omega)]
   have e2:(listed.setIfInBounds i true).getD n true = listed.getD n true:=getD_set_ne true e
   simp only [List.countP_singleton,e2]
   omega
theorem wpAny_conc (hB:concB l n N = true) (hN:a0.tmps.size = N)
  (hmono:∀ i x w w',i < n → E w w' → φ i x w → φ i x w')
  (hstep:∀ i o,i < n → l[i]? = some o → ∀ (a:Act) (w:World) (k:Nat),k < n → J k w → (∀ s ∈ tmpsOf o,known l n a0.tmps φ s (a.tmps.getD s undef) w) → OpV P o a.eval w fun v w' => φ i v w' ∧ J (k + 1) w' ∧ E w w')
  (hend:∀ (x:Nat → Value) (w':World),J n w' → (∀ i,i < n → φ i (x i) w') → wpList P l.toArray Q (l.drop n) (putAll (l.take n) 0 x a0) w') :
  ∀ (c:Nat) (listed:Array Bool) (a:Act) (w:World),c ≤ n → CInv l n a0 φ J (n - c) listed a w → ((List.range n).countP fun j => !listed.getD j true) = c → wpAny P .any l.toArray Q (c + (l.length - n)) listed a w:=by
 have hB':=hB
 simp only [concB,Bool.and_eq_true,decide_eq_true_eq] at hB'
 obtain ⟨⟨⟨⟨hn,hsink⟩,hchain⟩,hseq⟩,_⟩:=hB'
 intro c
 induction c with
 | zero =>
  intro listed a w hcn h hc
  have hall:∀ i,i < n → listed.getD i false = true:=fun i hi => by
   have:=List.countP_eq_zero.1 hc i (List.mem_range.2 hi)
   have hsz:=h.head.size
   have his:i < listed.size:=by rw [hsz];simp;omega
   simp [his] at this ⊢
   exact this
  obtain ⟨x,hx,rfl⟩:=h.fin hB hN hall
  have he:=allTrue_eq (n:=n) (m:=l.length) (by rw [h.head.size];simp) hall (fun t h1 h2 => h.head.tail t h1 (by simpa using h2))
  have:=wpAny_of_seq (P:=P) (ops:=l.toArray) (md:=.any) (Q':=Q) (l.drop n) n listed (putAll (l.take n) 0 x a0) w (fun j => by simp [List.getElem?_drop]) (by rw [List.length_drop,he];exact hseq) (hend x w h.world hx)
  rw [List.length_drop] at this
  rw [Nat.zero_add]
  exact this
 | succ c ih =>
  intro listed a w hcn h hc
  have hex:∃ i,i < n ∧ listed.getD i true = false:=by
   have:0 < (List.range n).countP fun j => !listed.getD j true:=by omega
   obtain ⟨i,hi,hl⟩:=List.countP_pos_iff.1 this
   exact ⟨i,List.mem_range.1 hi,by simpa using hl⟩
  have hne:Region.ready .any l.toArray listed ≠ []:=by
   have:∀ m i,i < n → i ≤ m → listed.getD i true = false → ∃ k,k ∈ Region.ready .any l.toArray listed:=by
    intro m
    induction m with
    | zero =>
     intro i hi hm hl
     obtain rfl:i = 0:=by omega
     obtain ⟨o,d,ho,_,_,_,_,haft,_⟩:=concB_at hB hi
     refine ⟨0,mem_ready.2 ⟨hl,o,by simpa using ho,fun e he hb => ?_⟩⟩
     have:=haft e he hb
     omega
    | succ m ihm =>
     intro i hi hm hl
     obtain ⟨o,d,ho,_,_,_,_,haft,_⟩:=concB_at hB hi
     by_cases hd:∀ e ∈ o.after,Region.binds .any e = true → listed.getD e.on false = true
     ·exact ⟨i,mem_ready.2 ⟨hl,o,by simpa using ho,hd⟩⟩
     ·obtain ⟨e,hd⟩:=Classical.not_forall.1 hd
      obtain ⟨he,hd⟩:=Classical.not_forall.1 hd
      obtain ⟨hb,hd⟩:=Classical.not_forall.1 hd
      have hlt:=haft e he hb
      have hes:e.on < listed.size:=by rw [h.head.size];simp;omega
      exact ihm e.on (by omega) (by omega) (getD_in hes (by simpa using hd))
   obtain ⟨i,hi,hl⟩:=hex
   obtain ⟨k,hk⟩:=this i i hi (Nat.le_refl _) hl
   intro e
   rw [e] at hk
   cases hk
  rw [show c + 1 + (l.length - n) = (c + (l.length - n)) + 1 from by omega]
  refine ⟨fun e => absurd e hne,fun i hi => ?_⟩
  obtain ⟨k,hk,hkl⟩:=hex
  have hin:i < n:=by
   rcases Nat.lt_or_ge i n with h' | h'
   ·exact h'
   ·exact absurd hi (tail_waits hsink hchain (by simpa using hn) h.head (n - k) k rfl hk hkl i h')
  refine wpOp_mono (fun a' w' h' => ih _ _ _ (by omega) (by rw [show n - (c + 1) + 1 = n - c from by omega] at h';exact h') ?_) (CInv.step hB hN hmono hstep (by omega) h hi hin)
  have hl:=(mem_ready.1 hi).1
  have:=countP_set hin hl
  omega
theorem wp_region_conc {id:Nat} {w:World} (n N:Nat) (φ:Nat → Value → World → Prop) (J:Nat → World → Prop) (E:World → World → Prop) (hm:P.follows .mixedOrders = true) (hB:concB l n N = true) (hN:a0.tmps.size = N)
  (hJ:J 0 w.drew) (hmono:∀ i x w w',i < n → E w w' → φ i x w → φ i x w')
  (hstep:∀ i o,i < n → l[i]? = some o → ∀ (a:Act) (w:World) (k:Nat),k < n → J k w → (∀ s ∈ tmpsOf o,known l n a0.tmps φ s (a.tmps.getD s undef) w) → OpV P o a.eval w fun v w' => φ i v w' ∧ J (k + 1) w' ∧ E w w')
  (hend:∀ (x:Nat → Value) (w':World),J n w' → (∀ i,i < n → φ i (x i) w') → wpList P l.toArray Q (l.drop n) (putAll (l.take n) 0 x a0) w') :
  (Code.region id l.toArray true).wp P Q a0 w:=by
 refine wp_region_any hm ?_
 have hn:n < l.length:=by
  simp only [concB,Bool.and_eq_true,decide_eq_true_eq] at hB
  exact hB.1.1.1.1
 have h0:CInv l n a0 φ J (n - n) (Array.replicate l.toArray.size false) a0 w.drew:=by
  refine ⟨⟨by simp,fun j oj _ hl => (by rw [getD_replicate_false] at hl;cases hl),fun t _ ht => getD_in (by simpa using ht) (getD_replicate_false _ _)⟩,by rw [Nat.sub_self];exact hJ,rfl,rfl,fun _ _ => rfl,fun i s _ hl => by rw [getD_replicate_false] at hl;cases hl⟩
 have hc:((List.range n).countP fun j => !(Array.replicate l.toArray.size false).getD j true) = n:=by
  have:((List.range n).countP fun j => !(Array.replicate l.toArray.size false).getD j true) = (List.range n).length:=by
   rw [List.countP_eq_length]
   intro j hj
   have:=List.mem_range.1 hj
   have h2:j < l.length:=by omega
   simp [h2]
  rw [this,List.length_range]
 have:=wpAny_conc (Q:=Q) hB hN hmono hstep hend n _ _ _ (Nat.le_refl _) h0 hc
 rw [show n + (l.length - n) = l.toArray.size from by simp;omega] at this
 exact this
end
open Go.RowKit
def notSel (o:Oper):Bool:=match o.op with | .select _ _ => false | _ => true
theorem notSel_ne {o:Oper} (h:notSel o = true):∀ cs b,o.op ≠ .select cs b:=by
 intro cs b e
 unfold notSel at h
 rw [e] at h
 cases h
def guardOk (l:List Oper) (n i:Nat) (o:Oper):Bool:=match o.guard with | none => true | some (j,_) => decide (j < n) && Region.waitsFor .any l.toArray i j
def detB (l:List Oper) (n N:Nat):Bool :=
 decide (n < l.length) && Region.sinkB .any l.toArray n && Region.chainB .any l.toArray n && Region.seqB .any l.toArray (l.length - n) n (allTrue n l.length) &&
 ((List.range n).all fun i => match l[i]? with
  | some o => guardOk l n i o && notSel o && (match o.dst with | some d => decide (d < N) && decide (writer l n d = some i) | none => false) &&
    (o.after.toList.all fun e => !Region.binds .any e || decide (e.on < i)) &&
    ((tmpsOf o).all fun s => match writer l n s with | some j => Region.waitsFor .any l.toArray i j | none => true)
  | none => false)
def detSeq (P:Program) (ops:Array Oper) (J:World → Prop) (K:Act → Prop):List Oper → Act → Prop
 | [],a => K a
 | o :: r,a => (Region.wanted o (yielded ops a.tmps) = true → ∃ v,(∀ W,J W → OpV P o a.eval W fun v' W' => v' = v ∧ J W') ∧ detSeq P ops J K r (a.put o.dst v)) ∧ (Region.wanted o (yielded ops a.tmps) = false → detSeq P ops J K r (a.put o.dst undef))
section
variable {P:Program} {l:List Oper} {n N:Nat} {a0:Act} {J:World → Prop} {K:Act → Prop} {Q:Exit → Act → World → Prop} {X:Nat → Value}
theorem putAll_congr (r:List Oper) (i:Nat) (x y:Nat → Value) (a:Act) (h:∀ k,i ≤ k → x k = y k):putAll r i x a = putAll r i y a:=by
 induction r generalizing i a with
 | nil => rfl
 | cons o r ih =>
  simp only [putAll]
  rw [h i (Nat.le_refl _)]
  exact ih _ _ (fun k hk => h k (by omega))
def DetAt (P:Program) (ops:Array Oper) (J:World → Prop) (o:Oper) (a:Act) (v:Value):Prop :=
 (Region.wanted o (yielded ops a.tmps) = true → ∀ W,J W → OpV P o a.eval W fun v' W' => v' = v ∧ J W') ∧ (Region.wanted o (yielded ops a.tmps) = false → v = undef)
theorem detSeq_fn (ops:Array Oper):∀ (r:List Oper) (i:Nat) (a:Act),detSeq P ops J K r a → ∃ X:Nat → Value,K (putAll r i X a) ∧ ∀ m o,r[m]? = some o → DetAt P ops J o (putAll (r.take m) i X a) (X (i + m)):=by
 intro r
 induction r with
 | nil => intro i a h;exact ⟨fun _ => undef,h,fun m o e => by simp at e⟩
 | cons o r ih =>
  intro i a h
  have key:∀ v,DetAt P ops J o a v → detSeq P ops J K r (a.put o.dst v) → ∃ X:Nat → Value,K (putAll (o :: r) i X a) ∧ ∀ m o',(o :: r)[m]? = some o' → DetAt P ops J o' (putAll ((o :: r).take m) i X a) (X (i + m)):=by
   intro v hv hs
   obtain ⟨X',hK,hX⟩:=ih (i + 1) _ hs
   have hc:∀ k,i + 1 ≤ k → (fun k => if k = i then v else X' k) k = X' k:=fun k hk => if_neg (by omega)
   have h0:(fun k => if k = i then v else X' k) i = v:=if_pos rfl
   refine ⟨fun k => if k = i then v else X' k,?_,?_⟩
   ·simp only [putAll,if_true]
    rw [putAll_congr r (i + 1) _ _ _ hc]
    exact hK
   ·intro m o' hm
    cases m with
    | zero =>
     simp only [List.getElem?_cons_zero] at hm
     injection hm with hm
     subst hm
     simp only [List.take_zero,putAll,Nat.add_zero,if_true]
     exact hv
    | succ m =>
     simp only [List.getElem?_cons_succ] at hm
     have:=hX m o' hm
     simp only [List.take_succ_cons,putAll,if_true]
     rw [putAll_congr (r.take m) (i + 1) _ _ _ hc,if_neg (show ¬ i + (m + 1) = i by omega),show i + (m + 1) = i + 1 + m from by omega]
     exact this
  unfold detSeq at h
  cases hw:Region.wanted o (yielded ops a.tmps) with
  | true =>
   obtain ⟨v,hv,hs⟩:=h.1 hw
   exact key v ⟨fun _ => hv,fun e => (by rw [hw] at e;cases e)⟩ hs
  | false => exact key undef ⟨fun e => (by rw [hw] at e;cases e),fun _ => rfl⟩ (h.2 hw)
theorem detB_at (h:detB l n N = true) {i:Nat} (hi:i < n):∃ o d,l[i]? = some o ∧ guardOk l n i o = true ∧ notSel o = true ∧ o.dst = some d ∧ d < N ∧ writer l n d = some i ∧ (∀ e ∈ o.after,Region.binds .any e = true → e.on < i) ∧ ∀ s ∈ tmpsOf o,∀ j,writer l n s = some j → Region.waitsFor .any l.toArray i j = true:=by
 simp only [detB,Bool.and_eq_true] at h
 have h1:=List.all_eq_true.1 h.2 i (List.mem_range.2 hi)
 cases ho:l[i]? with
 | none => rw [ho] at h1;cases h1
 | some o =>
  rw [ho] at h1
  simp only [Bool.and_eq_true] at h1
  obtain ⟨⟨⟨⟨g1,g0⟩,g2⟩,g3⟩,g4⟩:=h1
  cases hd:o.dst with
  | none => rw [hd] at g2;cases g2
  | some d =>
   rw [hd] at g2
   simp only [Bool.and_eq_true,decide_eq_true_eq] at g2
   refine ⟨o,d,rfl,g1,g0,hd,g2.1,g2.2,?_,?_⟩
   ·intro e he hb
    have:=List.all_eq_true.1 g3 e (by simpa using he)
    simpa [hb] using this
   ·intro s hs j hj
    have:=List.all_eq_true.1 g4 s hs
    rw [hj] at this
    exact this
structure DInv (l:List Oper) (n:Nat) (a0:Act) (X:Nat → Value) (J:World → Prop) (listed:Array Bool) (a:Act) (w:World):Prop where
 head:HeadInv .any l.toArray n listed
 world:J w
 defers:a.defers = a0.defers
 size:a.tmps.size = a0.tmps.size
 other:∀ s,writer l n s = none → a.tmps.getD s undef = a0.tmps.getD s undef
 done:∀ i s,i < n → listed.getD i false = true → dstAt l i = some s → a.tmps.getD s undef = X i
theorem dst_take {i j s:Nat} (h:dstAt ((l.take n).take i) j = some s):j < i ∧ j < n ∧ dstAt l j = some s:=by
 unfold dstAt at h ⊢
 rw [List.getElem?_take] at h
 split at h
 ·rw [List.getElem?_take] at h
  split at h
  ·exact ⟨‹_›,‹_›,h⟩
  ·cases h
 ·cases h
theorem dst_take_of {i j s:Nat} (h1:j < i) (h2:j < n) (h:dstAt l j = some s):dstAt ((l.take n).take i) j = some s:=by
 unfold dstAt at h ⊢
 rw [List.getElem?_take,if_pos h1,List.getElem?_take,if_pos h2]
 exact h
theorem before_slot (hB:detB l n N = true) (hN:a0.tmps.size = N) {i s j:Nat} (hj:writer l n s = some j) (hji:j < i):(putAll ((l.take n).take i) 0 X a0).tmps.getD s undef = X j:=by
 obtain ⟨hjn,hd⟩:=writer_dst hj
 obtain ⟨oj,dj,hoj,_,_,hdj,hdN,hwj,_⟩:=detB_at hB hjn
 have es:dj = s:=by simp only [dstAt,hoj,Option.bind_some,hdj] at hd;injection hd
 refine putAll_get _ 0 X a0 s (X j) (by rw [hN,← es];exact hdN) ?_ ?_
 ·intro k hk
  obtain ⟨_,hkn,hkd⟩:=dst_take hk
  obtain ⟨ok,dk,hok,_,_,hdk,_,hwk,_⟩:=detB_at hB hkn
  have:dk = s:=by simp only [dstAt,hok,Option.bind_some,hdk] at hkd;injection hkd
  rw [this,hj] at hwk
  injection hwk with e
  rw [Nat.zero_add,e]
 ·intro hno
  exact absurd (dst_take_of hji hjn hd) (hno j)
theorem before_other {i s:Nat} (hs:s < a0.tmps.size) (hw:writer l n s = none):(putAll ((l.take n).take i) 0 X a0).tmps.getD s undef = a0.tmps.getD s undef:=by
 refine putAll_get _ 0 X a0 s _ hs ?_ (fun _ => rfl)
 intro k hk
 obtain ⟨_,hkn,hkd⟩:=dst_take hk
 exact absurd hw (writer_some hkn hkd)
theorem getD_out {t:Array Value} {s:Nat} (h:t.size ≤ s):t.getD s undef = undef:=by
 simp [Nat.not_lt.2 h]
theorem yielded_eq {t t':Array Value} (hs:t.size = t'.size) {d j:Nat} (hd:dstAt l j = some d) (h:t.getD d undef = t'.getD d undef):yielded l.toArray t j = yielded l.toArray t' j:=by
 have e:((l.toArray[j]?).bind (·.dst)) = some d:=by
  unfold dstAt at hd
  simpa using hd
 unfold yielded
 rw [e]
 simp only [Option.bind_some]
 by_cases hlt:d < t.size
 ·have hlt':d < t'.size:=by omega
  have:t[d]? = t'[d]?:=by
   simp only [Array.getD_eq_getD_getElem?,Array.getElem?_eq_getElem hlt,Array.getElem?_eq_getElem hlt',Option.getD_some] at h
   rw [Array.getElem?_eq_getElem hlt,Array.getElem?_eq_getElem hlt',h]
  rw [this]
 ·rw [Array.getElem?_eq_none (by omega),Array.getElem?_eq_none (by omega)]
theorem OpV.mono {o:Oper} {ev:Operand → Value} {w:World} {R R':Value → World → Prop} (h:OpV P o ev w R) (hr:∀ v w',R v w' → R' v w'):OpV P o ev w R':=by
 unfold OpV at h ⊢
 generalize (execOp ev o).run P w = r at h ⊢
 cases r with
 | halt x w' => cases h
 | ok n w' =>
  cases n with
  | value v => exact hr _ _ h
  | skip => exact hr _ _ h
  | enter f args => exact Calls.mono h (fun e w'' ⟨v,he,hR⟩ => ⟨v,he,hr _ _ hR⟩)
  | defer d => cases h
  | row r xs => cases h
  | _ => cases h
theorem DInv.step (hB:detB l n N = true) (hN:a0.tmps.size = N) (hX:∀ i o,i < n → l[i]? = some o → DetAt P l.toArray J o (putAll ((l.take n).take i) 0 X a0) (X i))
  {listed:Array Bool} {a:Act} {w:World} (h:DInv l n a0 X J listed a w) {i:Nat} (hr:i ∈ Region.ready .any l.toArray listed) (hi:i < n) :
  wpOp P l.toArray Q i (fun a' w' => DInv l n a0 X J (listed.setIfInBounds i true) a' w') a w:=by
 obtain ⟨o,d,ho,hg,hsel,hd,hdN,hw,haft,hdep⟩:=detB_at hB hi
 have ho':l.toArray[i]? = some o:=by simpa using ho
 have hsz:=(putAll_size ((l.take n).take i) 0 X a0).1
 have hwait:∀ j,Region.waitsFor .any l.toArray i j = true → j < i ∧ listed.getD j false = true:=by
  intro j hj
  obtain ⟨oj,hoj,e,he,hb,hon⟩:=Region.waitsFor_spec hj
  have e1:oj = o:=Option.some.inj (hoj.symm.trans ho')
  subst e1
  obtain ⟨_,oi,hoi,hall⟩:=mem_ready.1 hr
  have e2:oi = oj:=Option.some.inj (hoi.symm.trans ho')
  subst e2
  rw [← hon]
  exact ⟨haft e he hb,hall e he hb⟩
 have hslot:∀ s j,writer l n s = some j → Region.waitsFor .any l.toArray i j = true → a.tmps.getD s undef = (putAll ((l.take n).take i) 0 X a0).tmps.getD s undef:=by
  intro s j hj hwj
  obtain ⟨h1,h2⟩:=hwait j hwj
  obtain ⟨hjn,hjd⟩:=writer_dst hj
  rw [before_slot hB hN hj h1]
  exact h.done j s hjn h2 hjd
 have hev:∀ x ∈ o.op.operands,a.eval x = (putAll ((l.take n).take i) 0 X a0).eval x:=by
  intro x hx
  cases x with
  | tmp s =>
   have hs:s ∈ tmpsOf o:=by
    unfold tmpsOf
    rw [List.mem_filterMap]
    exact ⟨.tmp s,by simpa using hx,rfl⟩
   show a.tmps.getD s undef = _
   cases hws:writer l n s with
   | none =>
    rw [h.other s hws]
    by_cases hlt:s < a0.tmps.size
    ·exact (before_other hlt hws).symm
    ·show _ = (putAll ((l.take n).take i) 0 X a0).tmps.getD s undef
     rw [getD_out (t:=a0.tmps) (Nat.not_lt.1 hlt),getD_out (t:=(putAll ((l.take n).take i) 0 X a0).tmps) (by rw [hsz];exact Nat.not_lt.1 hlt)]
   | some j => exact hslot s j hws (hdep s hs j hws)
  | const v => rfl
  | global g => rfl
  | func f => rfl
 have hwant:Region.wanted o (yielded l.toArray a.tmps) = Region.wanted o (yielded l.toArray (putAll ((l.take n).take i) 0 X a0).tmps):=by
  unfold Region.wanted
  cases hgd:o.guard with
  | none => rfl
  | some p =>
   obtain ⟨j,b⟩:=p
   unfold guardOk at hg
   rw [hgd] at hg
   simp only [Bool.and_eq_true,decide_eq_true_eq] at hg
   obtain ⟨oj,dj,hoj,_,_,hdj,_,hwj,_⟩:=detB_at hB hg.1
   have hds:dstAt l j = some dj:=by simp [dstAt,hoj,hdj]
   have:=yielded_eq (l:=l) (by rw [hsz,h.size]) hds (hslot dj j hwj hg.2)
   simp only [this]
 have hfin:∀ v w',v = X i → J w' → DInv l n a0 X J (listed.setIfInBounds i true) (a.put o.dst v) w':=by
  rintro v w' rfl hJ
  have hda:d < a.tmps.size:=by rw [h.size,hN];exact hdN
  rw [hd]
  refine ⟨h.head.set hr hi,hJ,h.defers,by simp [Act.put,h.size],?_,?_⟩
  ·intro s hs
   rw [getD_put hda]
   have:s ≠ d:=by rintro rfl;rw [hw] at hs;cases hs
   rw [if_neg this]
   exact h.other s hs
  ·intro j s hj hl hjs
   rw [getD_put hda]
   by_cases e:s = d
   ·subst e
    rw [if_pos rfl]
    have hw2:writer l n s = some j:=by
     obtain ⟨oj,dj,hoj,_,_,hdj,_,hwj,_⟩:=detB_at hB hj
     have:dj = s:=by simp only [dstAt,hoj,Option.bind_some,hdj] at hjs;injection hjs
     rw [← this];exact hwj
    rw [hw] at hw2
    injection hw2 with e2
    rw [e2]
   ·rw [if_neg e]
    have hne:i ≠ j:=by
     rintro rfl
     simp only [dstAt,ho,Option.bind_some,hd] at hjs
     injection hjs with e3
     exact e e3.symm
    rw [getD_set_ne false hne] at hl
    exact h.done j s hj hl hjs
 have hX':=hX i o hi ho
 unfold wpOp
 rw [ho']
 cases hwv:Region.wanted o (yielded l.toArray a.tmps) with
 | true =>
  simp only [hwv,if_true]
  left
  have h1:=hX'.1 (by rw [← hwant];exact hwv) w h.world
  have h2:OpV P o a.eval w fun v' W' => v' = X i ∧ J W':=by
   unfold OpV at h1 ⊢
   rw [execOp_congr o (notSel_ne hsel) hev]
   exact h1
  exact OpV.wp h2 (fun v w' ⟨e,hJ⟩ => hfin v w' e hJ)
 | false =>
  simp only [hwv,Bool.false_eq_true,if_false]
  exact hfin undef w (hX'.2 (by rw [← hwant];exact hwv)).symm h.world
theorem DInv.fin (hB:detB l n N = true) (hN:a0.tmps.size = N) {listed:Array Bool} {a:Act} {w:World} (h:DInv l n a0 X J listed a w) (hall:∀ i,i < n → listed.getD i false = true) :
  a = putAll (l.take n) 0 X a0:=by
 have hs:=putAll_size (l.take n) 0 X a0
 have htm:a.tmps = (putAll (l.take n) 0 X a0).tmps:=by
  apply Array.ext
  ·rw [hs.1,h.size]
  ·intro s h1 h2
   have e1:a.tmps.getD s undef = a.tmps[s]:=by simp [h1]
   have e2:(putAll (l.take n) 0 X a0).tmps.getD s undef = (putAll (l.take n) 0 X a0).tmps[s]:=by simp [h2]
   rw [← e1,← e2]
   have e3:(l.take n).take n = l.take n:=by rw [List.take_take,Nat.min_self]
   cases hw:writer l n s with
   | none =>
    rw [h.other s hw,← before_other (X:=X) (i:=n) (by rw [← h.size];exact h1) hw,e3]
   | some j =>
    obtain ⟨hjn,hjd⟩:=writer_dst hw
    have:=before_slot (X:=X) hB hN hw hjn
    rw [e3] at this
    rw [this]
    exact h.done j s hjn (hall j hjn) hjd
 obtain ⟨tm,df⟩:=a
 have e2:=h.defers
 simp only at htm e2
 generalize hp:putAll (l.take n) 0 X a0 = p at htm hs ⊢
 obtain ⟨tm',df'⟩:=p
 simp only at htm hs
 rw [htm,e2,hs.2]
theorem wpAny_det (hB:detB l n N = true) (hN:a0.tmps.size = N) (hX:∀ i o,i < n → l[i]? = some o → DetAt P l.toArray J o (putAll ((l.take n).take i) 0 X a0) (X i))
  (hend:∀ w',J w' → wpList P l.toArray Q (l.drop n) (putAll (l.take n) 0 X a0) w') :
  ∀ (c:Nat) (listed:Array Bool) (a:Act) (w:World),DInv l n a0 X J listed a w → ((List.range n).countP fun j => !listed.getD j true) = c → wpAny P .any l.toArray Q (c + (l.length - n)) listed a w:=by
 have hB':=hB
 simp only [detB,Bool.and_eq_true,decide_eq_true_eq] at hB'
 obtain ⟨⟨⟨⟨hn,hsink⟩,hchain⟩,hseq⟩,_⟩:=hB'
 intro c
 induction c with
 | zero =>
  intro listed a w h hc
  have hall:∀ i,i < n → listed.getD i false = true:=fun i hi => by
   have:=List.countP_eq_zero.1 hc i (List.mem_range.2 hi)
   have hsz:=h.head.size
   have his:i < listed.size:=by rw [hsz];simp;omega
   simp [his] at this ⊢
   exact this
  obtain rfl:=h.fin hB hN hall
  have he:=allTrue_eq (n:=n) (m:=l.length) (by rw [h.head.size];simp) hall (fun t h1 h2 => h.head.tail t h1 (by simpa using h2))
  have:=wpAny_of_seq (P:=P) (ops:=l.toArray) (md:=.any) (Q':=Q) (l.drop n) n listed (putAll (l.take n) 0 X a0) w (fun j => by simp [List.getElem?_drop]) (by rw [List.length_drop,he];exact hseq) (hend w h.world)
  rw [List.length_drop] at this
  rw [Nat.zero_add]
  exact this
 | succ c ih =>
  intro listed a w h hc
  have hex:∃ i,i < n ∧ listed.getD i true = false:=by
   have:0 < (List.range n).countP fun j => !listed.getD j true:=by omega
   obtain ⟨i,hi,hl⟩:=List.countP_pos_iff.1 this
   exact ⟨i,List.mem_range.1 hi,by simpa using hl⟩
  have hne:Region.ready .any l.toArray listed ≠ []:=by
   have:∀ m i,i < n → i ≤ m → listed.getD i true = false → ∃ k,k ∈ Region.ready .any l.toArray listed:=by
    intro m
    induction m with
    | zero =>
     intro i hi hm hl
     obtain rfl:i = 0:=by omega
     obtain ⟨o,d,ho,_,_,_,_,_,haft,_⟩:=detB_at hB hi
     refine ⟨0,mem_ready.2 ⟨hl,o,by simpa using ho,fun e he hb => ?_⟩⟩
     have:=haft e he hb
     omega
    | succ m ihm =>
     intro i hi hm hl
     obtain ⟨o,d,ho,_,_,_,_,_,haft,_⟩:=detB_at hB hi
     by_cases hd:∀ e ∈ o.after,Region.binds .any e = true → listed.getD e.on false = true
     ·exact ⟨i,mem_ready.2 ⟨hl,o,by simpa using ho,hd⟩⟩
     ·obtain ⟨e,hd⟩:=Classical.not_forall.1 hd
      obtain ⟨he,hd⟩:=Classical.not_forall.1 hd
      obtain ⟨hb,hd⟩:=Classical.not_forall.1 hd
      have hlt:=haft e he hb
      have hes:e.on < listed.size:=by rw [h.head.size];simp;omega
      exact ihm e.on (by omega) (by omega) (getD_in hes (by simpa using hd))
   obtain ⟨i,hi,hl⟩:=hex
   obtain ⟨k,hk⟩:=this i i hi (Nat.le_refl _) hl
   intro e
   rw [e] at hk
   cases hk
  rw [show c + 1 + (l.length - n) = (c + (l.length - n)) + 1 from by omega]
  refine ⟨fun e => absurd e hne,fun i hi => ?_⟩
  obtain ⟨k,hk,hkl⟩:=hex
  have hin:i < n:=by
   rcases Nat.lt_or_ge i n with h' | h'
   ·exact h'
   ·exact absurd hi (tail_waits hsink hchain (by simpa using hn) h.head (n - k) k rfl hk hkl i h')
  refine wpOp_mono (fun a' w' h' => ih _ _ _ h' ?_) (DInv.step hB hN hX h hi hin)
  have hl:=(mem_ready.1 hi).1
  have:=countP_set hin hl
  omega
theorem wp_region_det {id:Nat} {w:World} (n N:Nat) (J:World → Prop) (hm:P.follows .mixedOrders = true) (hB:detB l n N = true) (hN:a0.tmps.size = N) (hJ:J w.drew)
  (h:detSeq P l.toArray J (fun a => ∀ W,J W → wpList P l.toArray Q (l.drop n) a W) (l.take n) a0):(Code.region id l.toArray true).wp P Q a0 w:=by
 refine wp_region_any hm ?_
 have hn:n < l.length:=by
  simp only [detB,Bool.and_eq_true,decide_eq_true_eq] at hB
  exact hB.1.1.1.1
 obtain ⟨X,hK,hX⟩:=detSeq_fn l.toArray (l.take n) 0 a0 h
 have h0:DInv l n a0 X J (Array.replicate l.toArray.size false) a0 w.drew :=
  ⟨⟨by simp,fun j oj _ hl => (by rw [getD_replicate_false] at hl;cases hl),fun t _ ht => getD_in (by simpa using ht) (getD_replicate_false _ _)⟩,hJ,rfl,rfl,fun _ _ => rfl,fun i s _ hl => by rw [getD_replicate_false] at hl;cases hl⟩
 have hc:((List.range n).countP fun j => !(Array.replicate l.toArray.size false).getD j true) = n:=by
  have:((List.range n).countP fun j => !(Array.replicate l.toArray.size false).getD j true) = (List.range n).length:=by
   rw [List.countP_eq_length]
   intro j hj
   have:=List.mem_range.1 hj
   have h2:j < l.length:=by omega
   simp [h2]
  rw [this,List.length_range]
 have:=wpAny_det (Q:=Q) (X:=X) hB hN (fun i o hi ho => by
  have:=hX i o (by rw [List.getElem?_take,if_pos hi];exact ho)
  rw [Nat.zero_add] at this
  exact this) hK n _ _ _ h0 hc
 rw [show n + (l.length - n) = l.toArray.size from by simp;omega] at this
 exact this
theorem detSeq_op {ops:Array Oper} {o:Oper} {r:List Oper} {a:Act} (hg:o.guard = none) (v:Value) (h1:∀ W,J W → OpV P o a.eval W fun v' W' => v' = v ∧ J W') (h2:detSeq P ops J K r (a.put o.dst v)):detSeq P ops J K (o :: r) a :=
 ⟨fun _ => ⟨v,h1,h2⟩,fun e => by simp [Region.wanted,hg] at e⟩
theorem detSeq_yes {ops:Array Oper} {o:Oper} {r:List Oper} {a:Act} (hg:Region.wanted o (yielded ops a.tmps) = true) (v:Value) (h1:∀ W,J W → OpV P o a.eval W fun v' W' => v' = v ∧ J W') (h2:detSeq P ops J K r (a.put o.dst v)):detSeq P ops J K (o :: r) a :=
 ⟨fun _ => ⟨v,h1,h2⟩,fun e => by rw [hg] at e;cases e⟩
theorem detSeq_no {ops:Array Oper} {o:Oper} {r:List Oper} {a:Act} (hg:Region.wanted o (yielded ops a.tmps) = false) (h2:detSeq P ops J K r (a.put o.dst undef)):detSeq P ops J K (o :: r) a :=
 ⟨fun e => (by rw [hg] at e;cases e),fun _ => h2⟩
theorem detSeq_nil {ops:Array Oper} {a:Act} (h:K a):detSeq P ops J K [] a:=h
theorem lift_cell {w:World} {p:Addr} {v:Value} (h:w.cell? p = some v):∀ W,Below w.heap.size w W → W.cell? p = some v:=fun W hb => (hb.cell (World.block_lt_of_cell? w _ h)).trans h
theorem det_back {w W w':World} (hW:Below w.heap.size w W) (hb:Below W.heap.size W w'):Below w.heap.size w w':=hW.trans (hb.mono hW.size)
end
end Go.Proofs.YtcncifmanodabaaGreatDoor
