/- Texts of this claim, put together: Det, Cellw, OrdI. -/
import Derived.Test.YtfmnlpmgakgleaaGreatDoorGAF
import Derived.Test.YtfmnlpmgakgleaaGreatDoorGAC
import Derived.Sort.Grow
namespace Go.Proofs.YtfmnlpmgakgleaaGreatDoor
set_option linter.unusedVariables false
open Go.RowKit
def notSel (o:Oper):Bool:=match o.op with | .select _ _ => false | _ => true
theorem notSel_ne {o:Oper} (h:notSel o = true):∀ cs b,o.op ≠ .select cs b:=by
 intro cs b e
 unfold notSel at h
 rw [e] at h
 cases h
def guardOk (l:List Oper) (n i:Nat) (o:Oper):Bool:=match o.guard with | none => true | some (j,_) => decide (j < n) && Region.waitsFor .any l.toArray i j
def detB (l:List Oper) (n N:Nat):Bool :=
 decide (n < l.length) && Region.sinkB .any l.toArray n && Region.chainB .any l.toArray n && Region.seqB .any l.toArray (l.length - n) n (allTrue n l.length) &&
 ((List.range n).all fun i => match l[i]? with
  | some o => guardOk l n i o && notSel o && (match o.dst with | some d => decide (d < N) && decide (writer l n d = some i) | none => false) &&
    (o.after.toList.all fun e => !Region.binds .any e || decide (e.on < i)) &&
    ((tmpsOf o).all fun s => match writer l n s with | some j => Region.waitsFor .any l.toArray i j | none => true)
  | none => false)
def detSeq (P:Program) (ops:Array Oper) (J:World → Prop) (K:Act → Prop):List Oper → Act → Prop
 | [],a => K a
 | o :: r,a => (Region.wanted o (yielded ops a.tmps) = true → ∃ v,(∀ W,J W → OpV P o a.eval W fun v' W' => v' = v ∧ J W') ∧ detSeq P ops J K r (a.put o.dst v)) ∧ (Region.wanted o (yielded ops a.tmps) = false → detSeq P ops J K r (a.put o.dst undef))
section
variable {P:Program} {l:List Oper} {n N:Nat} {a0:Act} {J:World → Prop} {K:Act → Prop} {Q:Exit → Act → World → Prop} {X:Nat → Value}
theorem putAll_congr (r:List Oper) (i:Nat) (x y:Nat → Value) (a:Act) (h:∀ k,i ≤ k → x k = y k):putAll r i x a = putAll r i y a:=by
 induction r generalizing i a with
 | nil => rfl
 | cons o r ih =>
  simp only [putAll]
  rw [h i (Nat.le_refl _)]
  exact ih _ _ (fun k hk => h k (by omega))
def DetAt (P:Program) (ops:Array Oper) (J:World → Prop) (o:Oper) (a:Act) (v:Value):Prop :=
 (Region.wanted o (yielded ops a.tmps) = true → ∀ W,J W → OpV P o a.eval W fun v' W' => v' = v ∧ J W') ∧ (Region.wanted o (yielded ops a.tmps) = false → v = undef)
theorem detSeq_fn (ops:Array Oper):∀ (r:List Oper) (i:Nat) (a:Act),detSeq P ops J K r a → ∃ X:Nat → Value,K (putAll r i X a) ∧ ∀ m o,r[m]? = some o → DetAt P ops J o (putAll (r.take m) i X a) (X (i + m)):=by
 intro r
 induction r with
 | nil => intro i a h;exact ⟨fun _ => undef,h,fun m o e => by simp at e⟩
 | cons o r ih =>
  intro i a h
  have key:∀ v,DetAt P ops J o a v → detSeq P ops J K r (a.put o.dst v) → ∃ X:Nat → Value,K (putAll (o :: r) i X a) ∧ ∀ m o',(o :: r)[m]? = some o' → DetAt P ops J o' (putAll ((o :: r).take m) i X a) (X (i + m)):=by
   intro v hv hs
   obtain ⟨X',hK,hX⟩:=ih (i + 1) _ hs
   have hc:∀ k,i + 1 ≤ k → (fun k => if k = i then v else X' k) k = X' k:=fun k hk => if_neg (by omega)
   have h0:(fun k => if k = i then v else X' k) i = v:=if_pos rfl
   refine ⟨fun k => if k = i then v else X' k,?_,?_⟩
   ·simp only [putAll,if_true]
    rw [putAll_congr r (i + 1) _ _ _ hc]
    exact hK
   ·intro m o' hm
    cases m with
    | zero =>
     simp only [List.getElem?_cons_zero] at hm
     injection hm with hm
     subst hm
     simp only [List.take_zero,putAll,Nat.add_zero,if_true]
     exact hv
    | succ m =>
     simp only [List.getElem?_cons_succ] at hm
     have:=hX m o' hm
     simp only [List.take_succ_cons,putAll,if_true]
     rw [putAll_congr (r.take m) (i + 1) _ _ _ hc,if_neg (show ¬ i + (m + 1) = i by omega),show i + (m + 1) = i + 1 + m from by omega]
     exact this
  unfold detSeq at h
  cases hw:Region.wanted o (yielded ops a.tmps) with
  | true =>
   obtain ⟨v,hv,hs⟩:=h.1 hw
   exact key v ⟨fun _ => hv,fun e => (by rw [hw] at e;cases e)⟩ hs
  | false => exact key undef ⟨fun e => (by rw [hw] at e;cases e),fun _ => rfl⟩ (h.2 hw)
theorem detB_at (h:detB l n N = true) {i:Nat} (hi:i < n):∃ o d,l[i]? = some o ∧ guardOk l n i o = true ∧ notSel o = true ∧ o.dst = some d ∧ d < N ∧ writer l n d = some i ∧ (∀ e ∈ o.after,Region.binds .any e = true → e.on < i) ∧ ∀ s ∈ tmpsOf o,∀ j,writer l n s = some j → Region.waitsFor .any l.toArray i j = true:=by
 simp only [detB,Bool.and_eq_true] at h
 have h1:=List.all_eq_true.1 h.2 i (List.mem_range.2 hi)
 cases ho:l[i]? with
 | none => rw [ho] at h1;cases h1
 | some o =>
  rw [ho] at h1
  simp only [Bool.and_eq_true] at h1
  obtain ⟨⟨⟨⟨g1,g0⟩,g2⟩,g3⟩,g4⟩:=h1
  cases hd:o.dst with
  | none => rw [hd] at g2;cases g2
  | some d =>
   rw [hd] at g2
   simp only [Bool.and_eq_true,decide_eq_true_eq] at g2
   refine ⟨o,d,rfl,g1,g0,hd,g2.1,g2.2,?_,?_⟩
   ·intro e he hb
    have:=List.all_eq_true.1 g3 e (by simpa using he)
    simpa [hb] using this
   ·intro s hs j hj
    have:=List.all_eq_true.1 g4 s hs
    rw [hj] at this
    exact this
structure DInv (l:List Oper) (n:Nat) (a0:Act) (X:Nat → Value) (J:World → Prop) (listed:Array Bool) (a:Act) (w:World):Prop where
 head:HeadInv .any l.toArray n listed
 world:J w
 defers:a.defers = a0.defers
 size:a.tmps.size = a0.tmps.size
 other:∀ s,writer l n s = none → a.tmps.getD s undef = a0.tmps.getD s undef
 done:∀ i s,i < n → listed.getD i false = true → dstAt l i = some s → a.tmps.getD s undef = X i
theorem dst_take {i j s:Nat} (h:dstAt ((l.take n).take i) j = some s):j < i ∧ j < n ∧ dstAt l j = some s:=by
 unfold dstAt at h ⊢
 rw [List.getElem?_take] at h
 split at h
 ·rw [List.getElem?_take] at h
  split at h
  ·exact ⟨‹_›,‹_›,h⟩
  ·cases h
 ·cases h
theorem dst_take_of {i j s:Nat} (h1:j < i) (h2:j < n) (h:dstAt l j = some s):dstAt ((l.take n).take i) j = some s:=by
 unfold dstAt at h ⊢
 rw [List.getElem?_take,if_pos h1,List.getElem?_take,if_pos h2]
 exact h
theorem before_slot (hB:detB l n N = true) (hN:a0.tmps.size = N) {i s j:Nat} (hj:writer l n s = some j) (hji:j < i):(putAll ((l.take n).take i) 0 X a0).tmps.getD s undef = X j:=by
 obtain ⟨hjn,hd⟩:=writer_dst hj
 obtain ⟨oj,dj,hoj,_,_,hdj,hdN,hwj,_⟩:=detB_at hB hjn
 have es:dj = s:=by simp only [dstAt,hoj,Option.bind_some,hdj] at hd;injection hd
 refine putAll_get _ 0 X a0 s (X j) (by rw [hN,← es];exact hdN) ?_ ?_
 ·intro k hk
  obtain ⟨_,hkn,hkd⟩:=dst_take hk
  obtain ⟨ok,dk,hok,_,_,hdk,_,hwk,_⟩:=detB_at hB hkn
  have:dk = s:=by simp only [dstAt,hok,Option.bind_some,hdk] at hkd;injection hkd
  rw [this,hj] at hwk
  injection hwk with e
  rw [Nat.zero_add,e]
 ·intro hno
  exact absurd (dst_take_of hji hjn hd) (hno j)
theorem before_other {i s:Nat} (hs:s < a0.tmps.size) (hw:writer l n s = none):(putAll ((l.take n).take i) 0 X a0).tmps.getD s undef = a0.tmps.getD s undef:=by
 refine putAll_get _ 0 X a0 s _ hs ?_ (fun _ => rfl)
 intro k hk
 obtain ⟨_,hkn,hkd⟩:=dst_take hk
 exact absurd hw (writer_some hkn hkd)
theorem getD_out {t:Array Value} {s:Nat} (h:t.size ≤ s):t.getD s undef = undef:=by
 simp [Nat.not_lt.2 h]
theorem yielded_eq {t t':Array Value} (hs:t.size = t'.size) {d j:Nat} (hd:dstAt l j = some d) (h:t.getD d undef = t'.getD d undef):yielded l.toArray t j = yielded l.toArray t' j:=by
 have e:((l.toArray[j]?).bind (·.dst)) = some d:=by
  unfold dstAt at hd
  simpa using hd
 unfold yielded
 rw [e]
 simp only [Option.bind_some]
 by_cases hlt:d < t.size
 ·have hlt':d < t'.size:=by omega
  have:t[d]? = t'[d]?:=by
   simp only [Array.getD_eq_getD_getElem?,Array.getElem?_eq_getElem hlt,Array.getElem?_eq_getElem hlt',Option.getD_some] at h
   rw [Array.getElem?_eq_getElem hlt,Array.getElem?_eq_getElem hlt',h]
  rw [this]
 ·rw [Array.getElem?_eq_none (by omega),Array.getElem?_eq_none (by omega)]
theorem OpV.mono {o:Oper} {ev:Operand → Value} {w:World} {R R':Value → World → Prop} (h:OpV P o ev w R) (hr:∀ v w',R v w' → R' v w'):OpV P o ev w R':=by
 unfold OpV at h ⊢
 generalize (execOp ev o).run P w = r at h ⊢
 cases r with
 | halt x w' => cases h
 | ok n w' =>
  cases n with
  | value v => exact hr _ _ h
  | skip => exact hr _ _ h
  | enter f args => exact Calls.mono h (fun e w'' ⟨v,he,hR⟩ => ⟨v,he,hr _ _ hR⟩)
  | defer d => cases h
  | row r xs => cases h
  | _ => cases h
theorem DInv.step (hB:detB l n N = true) (hN:a0.tmps.size = N) (hX:∀ i o,i < n → l[i]? = some o → DetAt P l.toArray J o (putAll ((l.take n).take i) 0 X a0) (X i))
  {listed:Array Bool} {a:Act} {w:World} (h:DInv l n a0 X J listed a w) {i:Nat} (hr:i ∈ Region.ready .any l.toArray listed) (hi:i < n) :
  wpOp P l.toArray Q i (fun a' w' => DInv l n a0 X J (listed.setIfInBounds i true) a' w') a w:=by
 obtain ⟨o,d,ho,hg,hsel,hd,hdN,hw,haft,hdep⟩:=detB_at hB hi
 have ho':l.toArray[i]? = some o:=by simpa using ho
 have hsz:=(putAll_size ((l.take n).take i) 0 X a0).1
 have hwait:∀ j,Region.waitsFor .any l.toArray i j = true → j < i ∧ listed.getD j false = true:=by
  intro j hj
  obtain ⟨oj,hoj,e,he,hb,hon⟩:=Region.waitsFor_spec hj
  have e1:oj = o:=Option.some.inj (hoj.symm.trans ho')
  subst e1
  obtain ⟨_,oi,hoi,hall⟩:=mem_ready.1 hr
  have e2:oi = oj:=Option.some.inj (hoi.symm.trans ho')
  subst e2
  rw [← hon]
  exact ⟨haft e he hb,hall e he hb⟩
 have hslot:∀ s j,writer l n s = some j → Region.waitsFor .any l.toArray i j = true → a.tmps.getD s undef = (putAll ((l.take n).take i) 0 X a0).tmps.getD s undef:=by
  intro s j hj hwj
  obtain ⟨h1,h2⟩:=hwait j hwj
  obtain ⟨hjn,hjd⟩:=writer_dst hj
  rw [before_slot hB hN hj h1]
  exact h.done j s hjn h2 hjd
 have hev:∀ x ∈ o.op.operands,a.eval x = (putAll ((l.take n).take i) 0 X a0).eval x:=by
  intro x hx
  cases x with
  | tmp s =>
   have hs:s ∈ tmpsOf o:=by
    unfold tmpsOf
    rw [List.mem_filterMap]
    exact ⟨.tmp s,by simpa using hx,rfl⟩
   show a.tmps.getD s undef = _
   cases hws:writer l n s with
   | none =>
    rw [h.other s hws]
    by_cases hlt:s < a0.tmps.size
    ·exact (before_other hlt hws).symm
    ·show _ = (putAll ((l.take n).take i) 0 X a0).tmps.getD s undef
     rw [getD_out (t:=a0.tmps) (Nat.not_lt.1 hlt),getD_out (t:=(putAll ((l.take n).take i) 0 X a0).tmps) (by rw [hsz];exact Nat.not_lt.1 hlt)]
   | some j => exact hslot s j hws (hdep s hs j hws)
  | const v => rfl
  | global g => rfl
  | func f => rfl
 have hwant:Region.wanted o (yielded l.toArray a.tmps) = Region.wanted o (yielded l.toArray (putAll ((l.take n).take i) 0 X a0).tmps):=by
  unfold Region.wanted
  cases hgd:o.guard with
  | none => rfl
  | some p =>
   obtain ⟨j,b⟩:=p
   unfold guardOk at hg
   rw [hgd] at hg
   simp only [Bool.and_eq_true,decide_eq_true_eq] at hg
   obtain ⟨oj,dj,hoj,_,_,hdj,_,hwj,_⟩:=detB_at hB hg.1
   have hds:dstAt l j = some dj:=by simp [dstAt,hoj,hdj]
   have:=yielded_eq (l:=l) (by rw [hsz,h.size]) hds (hslot dj j hwj hg.2)
   simp only [this]
 have hfin:∀ v w',v = X i → J w' → DInv l n a0 X J (listed.setIfInBounds i true) (a.put o.dst v) w':=by
  rintro v w' rfl hJ
  have hda:d < a.tmps.size:=by rw [h.size,hN];exact hdN
  rw [hd]
  refine ⟨h.head.set hr hi,hJ,h.defers,by simp [Act.put,h.size],?_,?_⟩
  ·intro s hs
   rw [getD_put hda]
   have:s ≠ d:=by rintro rfl;rw [hw] at hs;cases hs
   rw [if_neg this]
   exact h.other s hs
  ·intro j s hj hl hjs
   rw [getD_put hda]
   by_cases e:s = d
   ·subst e
    rw [if_pos rfl]
    have hw2:writer l n s = some j:=by
     obtain ⟨oj,dj,hoj,_,_,hdj,_,hwj,_⟩:=detB_at hB hj
     have:dj = s:=by simp only [dstAt,hoj,Option.bind_some,hdj] at hjs;injection hjs
     rw [← this];exact hwj
    rw [hw] at hw2
    injection hw2 with e2
    rw [e2]
   ·rw [if_neg e]
    have hne:i ≠ j:=by
     rintro rfl
     simp only [dstAt,ho,Option.bind_some,hd] at hjs
     injection hjs with e3
     exact e e3.symm
    rw [getD_set_ne false hne] at hl
    exact h.done j s hj hl hjs
 have hX':=hX i o hi ho
 unfold wpOp
 rw [ho']
 cases hwv:Region.wanted o (yielded l.toArray a.tmps) with
 | true =>
  simp only [hwv,if_true]
  left
  have h1:=hX'.1 (by rw [← hwant];exact hwv) w h.world
  have h2:OpV P o a.eval w fun v' W' => v' = X i ∧ J W':=by
   unfold OpV at h1 ⊢
   rw [execOp_congr o (notSel_ne hsel) hev]
   exact h1
  exact OpV.wp h2 (fun v w' ⟨e,hJ⟩ => hfin v w' e hJ)
 | false =>
  simp only [hwv,Bool.false_eq_true,if_false]
  exact hfin undef w (hX'.2 (by rw [← hwant];exact hwv)).symm h.world
theorem DInv.fin (hB:detB l n N = true) (hN:a0.tmps.size = N) {listed:Array Bool} {a:Act} {w:World} (h:DInv l n a0 X J listed a w) (hall:∀ i,i < n → listed.getD i false = true) :
  a = putAll (l.take n) 0 X a0:=by
 have hs:=putAll_size (l.take n) 0 X a0
 have htm:a.tmps = (putAll (l.take n) 0 X a0).tmps:=by
  apply Array.ext
  ·rw [hs.1,h.size]
  ·intro s h1 h2
   have e1:a.tmps.getD s undef = a.tmps[s]:=by simp [h1]
   have e2:(putAll (l.take n) 0 X a0).tmps.getD s undef = (putAll (l.take n) 0 X a0).tmps[s]:=by simp [h2]
   rw [← e1,← e2]
   have e3:(l.take n).take n = l.take n:=by rw [List.take_take,Nat.min_self]
   cases hw:writer l n s with
   | none =>
    rw [h.other s hw,← before_other (X:=X) (i:=n) (by rw [← h.size];exact h1) hw,e3]
   | some j =>
    obtain ⟨hjn,hjd⟩:=writer_dst hw
    have:=before_slot (X:=X) hB hN hw hjn
    rw [e3] at this
    rw [this]
    exact h.done j s hjn (hall j hjn) hjd
 obtain ⟨tm,df⟩:=a
 have e2:=h.defers
 simp only at htm e2
 generalize hp:putAll (l.take n) 0 X a0 = p at htm hs ⊢
 obtain ⟨tm',df'⟩:=p
 simp only at htm hs
 rw [htm,e2,hs.2]
theorem wpAny_det (hB:detB l n N = true) (hN:a0.tmps.size = N) (hX:∀ i o,i < n → l[i]? = some o → DetAt P l.toArray J o (putAll ((l.take n).take i) 0 X a0) (X i))
  (hend:∀ w',J w' → wpList P l.toArray Q (l.drop n) (putAll (l.take n) 0 X a0) w') :
  ∀ (c:Nat) (listed:Array Bool) (a:Act) (w:World),DInv l n a0 X J listed a w → ((List.range n).countP fun j => !listed.getD j true) = c → wpAny P .any l.toArray Q (c + (l.length - n)) listed a w:=by
 have hB':=hB
 simp only [detB,Bool.and_eq_true,decide_eq_true_eq] at hB'
 obtain ⟨⟨⟨⟨hn,hsink⟩,hchain⟩,hseq⟩,_⟩:=hB'
 intro c
 induction c with
 | zero =>
  intro listed a w h hc
  have hall:∀ i,i < n → listed.getD i false = true:=fun i hi => by
   have:=List.countP_eq_zero.1 hc i (List.mem_range.2 hi)
   have hsz:=h.head.size
   have his:i < listed.size:=by rw [hsz];simp;omega
   simp [his] at this ⊢
   exact this
  obtain rfl:=h.fin hB hN hall
  have he:=allTrue_eq (n:=n) (m:=l.length) (by rw [h.head.size];simp) hall (fun t h1 h2 => h.head.tail t h1 (by simpa using h2))
  have:=wpAny_of_seq (P:=P) (ops:=l.toArray) (md:=.any) (Q':=Q) (l.drop n) n listed (putAll (l.take n) 0 X a0) w (fun j => by simp [List.getElem?_drop]) (by rw [List.length_drop,he];exact hseq) (hend w h.world)
  rw [List.length_drop] at this
  rw [Nat.zero_add]
  exact this
 | succ c ih =>
  intro listed a w h hc
  have hex:∃ i,i < n ∧ listed.getD i true = false:=by
   have:0 < (List.range n).countP fun j => !listed.getD j true:=by omega
   obtain ⟨i,hi,hl⟩:=List.countP_pos_iff.1 this
   exact ⟨i,List.mem_range.1 hi,by simpa using hl⟩
  have hne:Region.ready .any l.toArray listed ≠ []:=by
   have:∀ m i,i < n → i ≤ m → listed.getD i true = false → ∃ k,k ∈ Region.ready .any l.toArray listed:=by
    intro m
    induction m with
    | zero =>
     intro i hi hm hl
     obtain rfl:i = 0:=by omega
     obtain ⟨o,d,ho,_,_,_,_,_,haft,_⟩:=detB_at hB hi
     refine ⟨0,mem_ready.2 ⟨hl,o,by simpa using ho,fun e he hb => ?_⟩⟩
     have:=haft e he hb
     omega
    | succ m ihm =>
     intro i hi hm hl
     obtain ⟨o,d,ho,_,_,_,_,_,haft,_⟩:=detB_at hB hi
     by_cases hd:∀ e ∈ o.after,Region.binds .any e = true → listed.getD e.on false = true
     ·exact ⟨i,mem_ready.2 ⟨hl,o,by simpa using ho,hd⟩⟩
     ·obtain ⟨e,hd⟩:=Classical.not_forall.1 hd
      obtain ⟨he,hd⟩:=Classical.not_forall.1 hd
      obtain ⟨hb,hd⟩:=Classical.not_forall.1 hd
      have hlt:=haft e he hb
      have hes:e.on < listed.size:=by rw [h.head.size];simp;omega
      exact ihm e.on (by omega) (by omega) (getD_in hes (by simpa using hd))
   obtain ⟨i,hi,hl⟩:=hex
   obtain ⟨k,hk⟩:=this i i hi (Nat.le_refl _) hl
   intro e
   rw [e] at hk
   cases hk
  rw [show c + 1 + (l.length - n) = (c + (l.length - n)) + 1 from by omega]
  refine ⟨fun e => absurd e hne,fun i hi => ?_⟩
  obtain ⟨k,hk,hkl⟩:=hex
  have hin:i < n:=by
   rcases Nat.lt_or_ge i n with h' | h'
   ·exact h'
   ·exact absurd hi (tail_waits hsink hchain (by simpa using hn) h.head (n - k) k rfl hk hkl i h')
  refine wpOp_mono (fun a' w' h' => ih _ _ _ h' ?_) (DInv.step hB hN hX h hi hin)
  have hl:=(mem_ready.1 hi).1
  have:=countP_set hin hl
  omega
theorem wp_region_det {id:Nat} {w:World} (n N:Nat) (J:World → Prop) (hm:P.follows .mixedOrders = true) (hB:detB l n N = true) (hN:a0.tmps.size = N) (hJ:J w.drew)
  (h:detSeq P l.toArray J (fun a => ∀ W,J W → wpList P l.toArray Q (l.drop n) a W) (l.take n) a0):(Code.region id l.toArray true).wp P Q a0 w:=by
 refine wp_region_any hm ?_
 have hn:n < l.length:=by
  simp only [detB,Bool.and_eq_true,decide_eq_true_eq] at hB
  exact hB.1.1.1.1
 obtain ⟨X,hK,hX⟩:=detSeq_fn l.toArray (l.take n) 0 a0 h
 have h0:DInv l n a0 X J (Array.replicate l.toArray.size false) a0 w.drew :=
  ⟨⟨by simp,fun j oj _ hl => (by rw [getD_replicate_false] at hl;cases hl),fun t _ ht => getD_in (by simpa using ht) (getD_replicate_false _ _)⟩,hJ,rfl,rfl,fun _ _ => rfl,fun i s _ hl => by rw [getD_replicate_false] at hl;cases hl⟩
 have hc:((List.range n).countP fun j => !(Array.replicate l.toArray.size false).getD j true) = n:=by
  have:((List.range n).countP fun j => !(Array.replicate l.toArray.size false).getD j true) = (List.range n).length:=by
   rw [List.countP_eq_length]
   intro j hj
   have:=List.mem_range.1 hj
   have h2:j < l.length:=by omega
   simp [h2]
  rw [this,List.length_range]
 have:=wpAny_det (Q:=Q) (X:=X) hB hN (fun i o hi ho => by
  have:=hX i o (by rw [List.getElem?_take,if_pos hi];exact ho)
  rw [Nat.zero_add] at this
  exact this) hK n _ _ _ h0 hc
 rw [show n + (l.length - n) = l.toArray.size from by simp;omega] at this
 exact this
theorem detSeq_op {ops:Array Oper} {o:Oper} {r:List Oper} {a:Act} (hg:o.guard = none) (v:Value) (h1:∀ W,J W → OpV P o a.eval W fun v' W' => v' = v ∧ J W') (h2:detSeq P ops J K r (a.put o.dst v)):detSeq P ops J K (o :: r) a :=
 ⟨fun _ => ⟨v,h1,h2⟩,fun e => by simp [Region.wanted,hg] at e⟩
theorem detSeq_yes {ops:Array Oper} {o:Oper} {r:List Oper} {a:Act} (hg:Region.wanted o (yielded ops a.tmps) = true) (v:Value) (h1:∀ W,J W → OpV P o a.eval W fun v' W' => v' = v ∧ J W') (h2:detSeq P ops J K r (a.put o.dst v)):detSeq P ops J K (o :: r) a :=
 ⟨fun _ => ⟨v,h1,h2⟩,fun e => by rw [hg] at e;cases e⟩
theorem detSeq_no {ops:Array Oper} {o:Oper} {r:List Oper} {a:Act} (hg:Region.wanted o (yielded ops a.tmps) = false) (h2:detSeq P ops J K r (a.put o.dst undef)):detSeq P ops J K (o :: r) a :=
 ⟨fun e => (by rw [hg] at e;cases e),fun _ => h2⟩
theorem detSeq_nil {ops:Array Oper} {a:Act} (h:K a):detSeq P ops J K [] a:=h
theorem lift_cell {w:World} {p:Addr} {v:Value} (h:w.cell? p = some v):∀ W,Below w.heap.size w W → W.cell? p = some v:=fun W hb => (hb.cell (World.block_lt_of_cell? w _ h)).trans h
theorem det_back {w W w':World} (hW:Below w.heap.size w W) (hb:Below W.heap.size W w'):Below w.heap.size w w':=hW.trans (hb.mono hW.size)
end
open Go.RowKit
theorem newc {w:World} {T:TypeId} {xs:Array Value} (m:Nat) {v:Value} (h:xs[m]? = some v):(w.alloc (.cells xs T)).cell? ⟨w.heap.size,m,none⟩ = some v:=by
 rw [World.cell?_alloc_new];exact h
theorem new1 {w:World} (o:Obj):Below w.heap.size w (w.alloc o):=(Below.refl _ _).alloc (Nat.le_refl _) _
theorem sizeA (w:World) (o:Obj):(w.alloc o).heap.size = w.heap.size + 1:=by simp
theorem keep2 {w w1:World} {T:TypeId} {xs:Array Value} (hb:Below (w.alloc (.cells xs T)).heap.size (w.alloc (.cells xs T)) w1):w1.heap[w.heap.size]? = some (.cells xs T (0,0)):=(hb.block _ (by simp)).trans (heap_alloc_new _ _)
theorem cell_h {w:World} {g:Nat} {T:TypeId} {xs:Array Value} {f:Nat × Nat} (h:w.heap[g]? = some (.cells xs T f)) (m:Nat) {v:Value} (hv:xs[m]? = some v):w.cell? ⟨g,m,none⟩ = some v:=by
 simp only [World.cell?,h];exact hv
theorem froz_h {w:World} {g:Nat} {T:TypeId} {xs:Array Value} (h:w.heap[g]? = some (.cells xs T (0,0))) (m:Nat):w.frozen? ⟨g,m,none⟩ = false:=by
 simp [World.frozen?,h]
theorem set2 {w:World} {g:Nat} {T:TypeId} {x0 x1:Value} (h:w.heap[g]? = some (.cells #[x0,x1] T (0,0))) (a0 a1:Value):((w.setCell ⟨g,0,none⟩ a0).setCell ⟨g,1,none⟩ a1).heap[g]? = some (.cells #[a0,a1] T (0,0)):=by
 simp [World.setCell,Array.getElem?_modify,h]
theorem set3 {w:World} {g:Nat} {T:TypeId} {x0 x1 x2:Value} (h:w.heap[g]? = some (.cells #[x0,x1,x2] T (0,0))) (a0 a1 a2:Value):(((w.setCell ⟨g,0,none⟩ a0).setCell ⟨g,1,none⟩ a1).setCell ⟨g,2,none⟩ a2).heap[g]? = some (.cells #[a0,a1,a2] T (0,0)):=by
 simp [World.setCell,Array.getElem?_modify,h]
theorem grown_setC {a w:World} {g:Nat} (h:a.grownBy w (some g)) (o:Nat) (v:Value):a.grownBy (w.setCell ⟨g,o,none⟩ v) (some g) :=
 ⟨h.os,h.tape,h.output,by simpa [World.setCell] using h.size,fun k hk hne => (Below.heap_setCell w _ v k (fun e => hne (by rw [e]))).trans (h.block k hk hne)⟩
theorem grown_set2 (w1:World) (g:Nat) (a0 a1:Value):w1.grownBy ((w1.setCell ⟨g,0,none⟩ a0).setCell ⟨g,1,none⟩ a1) (some g):=(grown_setC (grown_setC (World.grownBy.refl _ _) 0 a0) 1 a1)
open Go.RowKit
def Gro (w w':World):Prop:=∃ q os,w' = Sort.grow (w.drewN q) os
theorem Gro.refl (w:World):Gro w w:=⟨0,#[],by rw [Sort.grow_empty];rfl⟩
theorem drewN_add (w:World) (p q:Nat):(w.drewN p).drewN q = w.drewN (p + q):=by simp [World.drewN,Nat.add_assoc]
theorem Gro.trans {a b c:World} (h:Gro a b) (g:Gro b c):Gro a c:=by
 obtain ⟨p,x,rfl⟩:=h
 obtain ⟨q,y,rfl⟩:=g
 refine ⟨p + q,x ++ y,?_⟩
 rw [show (Sort.grow (a.drewN p) x).drewN q = Sort.grow ((a.drewN p).drewN q) x from rfl,Sort.grow_grow,drewN_add]
theorem Gro.drew (w:World):Gro w w.drew:=⟨1,#[],by rw [Sort.grow_empty];rfl⟩
theorem Gro.alloc (w:World) (o:Obj):Gro w (w.alloc o):=⟨0,#[o],by rw [Sort.alloc_eq_grow];rfl⟩
theorem Gro.below {w w':World} (h:Gro w w'):Below w.heap.size w w':=by
 obtain ⟨q,os,rfl⟩:=h
 exact ⟨rfl,rfl,rfl,by simp [World.drewN],fun b hb => Sort.heap_grow_old (w.drewN q) os hb⟩
theorem lift_gro {w:World} {p:Addr} {v:Value} (h:w.cell? p = some v):∀ W,Gro w W → W.cell? p = some v:=fun W hb => (hb.below.cell (World.block_lt_of_cell? w _ h)).trans h
def idCmp (a b:IdD):Int:=orL [cmpI a.kind b.kind,cmpS a.text b.text]
end Go.Proofs.YtfmnlpmgakgleaaGreatDoor
