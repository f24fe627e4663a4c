/- Texts of this claim, put together: ConcW, ConcV, AppG. -/
import Derived.Test.YtbidhpgjmcedaaaGreatDoorGAE
import Derived.Test.YtbidhpgjmcedaaaGreatDoorGAB
import Derived.ArgAppend
namespace Go.Proofs.YtbidhpgjmcedaaaGreatDoor
set_option linter.unusedVariables false
open Go.RowKit
def concWB (l : List Oper) (n N : Nat) : Bool :=
 decide (n < l.length) && Region.sinkB .any l.toArray n && Region.chainB .any l.toArray n && Region.seqB .any l.toArray (l.length - n) n (allTrue n l.length) &&
 ((List.range n).all fun i => match l[i]? with
  | some o => o.guard.isNone && (match o.dst with | some d => decide (d < N) && decide (writer l n d = some i) | none => true) &&
    (o.after.toList.all fun e => !Region.binds .any e || decide (e.on < i)) &&
    ((tmpsOf o).all fun s => match writer l n s with | some j => Region.waitsFor .any l.toArray i j | none => true)
  | none => false)
section
variable {P : Program} {l : List Oper} {n N : Nat} {a0 : Act} {φ : Nat → Value → World → Prop} {J : Nat → World → Prop} {E : World → World → Prop} {Q : Exit → Act → World → Prop}
theorem concWB_at (h : concWB l n N = true) {i : Nat} (hi : i < n) : ∃ o,l[i]? = some o ∧ o.guard = none ∧ (∀ d,o.dst = some d → d < N ∧ writer l n d = some i) ∧ (∀ e ∈ o.after,Region.binds .any e = true → e.on < i) ∧ ∀ s ∈ tmpsOf o,∀ j,writer l n s = some j → Region.waitsFor .any l.toArray i j = true:=by
 simp only [concWB,Bool.and_eq_true] at h
 have h1:=List.all_eq_true.1 h.2 i (List.mem_range.2 hi)
 cases ho : l[i]? with
 | none => rw [ho] at h1; cases h1
 | some o =>
  rw [ho] at h1
  simp only [Bool.and_eq_true] at h1
  obtain ⟨⟨⟨g1,g2⟩,g3⟩,g4⟩:=h1
  refine ⟨o,rfl,by simpa using g1,?_,?_,?_⟩
  ·intro d hd
   rw [hd] at g2
   simpa only [Bool.and_eq_true,decide_eq_true_eq] using g2
  ·intro e he hb
   have:=List.all_eq_true.1 g3 e (by simpa using he)
   simpa [hb] using this
  ·intro s hs j hj
   have:=List.all_eq_true.1 g4 s hs
   rw [hj] at this
   exact this
structure CInvW (l : List Oper) (n : Nat) (a0 : Act) (φ : Nat → Value → World → Prop) (J : Nat → World → Prop) (k : Nat) (listed : Array Bool) (a : Act) (w : World) : Prop where
 head : HeadInv .any l.toArray n listed
 world : J k w
 defers : a.defers = a0.defers
 size : a.tmps.size = a0.tmps.size
 other : ∀ s,writer l n s = none → a.tmps.getD s undef = a0.tmps.getD s undef
 done : ∀ i s,i < n → listed.getD i false = true → dstAt l i = some s → φ i (a.tmps.getD s undef) w
 stored : ∀ i,i < n → listed.getD i false = true → dstAt l i = none → φ i undef w
theorem CInvW.step (hB : concWB l n N = true) (hN : a0.tmps.size = N)
  (hmono : ∀ i x w w',i < n → E w w' → φ i x w → φ i x w') (hnone : ∀ i x w,i < n → dstAt l i = none → φ i x w → φ i undef w)
  (hstep : ∀ i o,i < n → l[i]? = some o → ∀ (a : Act) (w : World) (k : Nat),k < n → J k w → (∀ s ∈ tmpsOf o,known l n a0.tmps φ s (a.tmps.getD s undef) w) → OpV P o a.eval w fun v w' => φ i v w' ∧ J (k + 1) w' ∧ E w w')
  {k : Nat} (hk : k < n) {listed : Array Bool} {a : Act} {w : World} (h : CInvW l n a0 φ J k listed a w) {i : Nat} (hr : i ∈ Region.ready .any l.toArray listed) (hi : i < n) :
  wpOp P l.toArray Q i (fun a' w' => CInvW l n a0 φ J (k + 1) (listed.setIfInBounds i true) a' w') a w:=by
 obtain ⟨o,ho,hg,hdw,haft,hdep⟩:=concWB_at hB hi
 have ho' : l.toArray[i]? = some o:=by simpa using ho
 have hwant : Region.wanted o (yielded l.toArray a.tmps) = true:=by simp [Region.wanted,hg]
 unfold wpOp
 rw [ho']
 simp only [hwant,if_true]
 left
 refine OpV.wp (hstep i o hi ho a w k hk h.world ?_) ?_
 ·intro s hs
  unfold known
  cases hws : writer l n s with
  | none => exact h.other s hws
  | some j =>
   obtain ⟨hj,hjd⟩:=writer_dst hws
   obtain ⟨_,oi,hoi,hall⟩:=mem_ready.1 hr
   obtain ⟨oj,hoj,e,he,hb,hon⟩:=Region.waitsFor_spec (hdep s hs j hws)
   have : oj = oi:=Option.some.inj (hoj.symm.trans hoi)
   subst this
   have hl:=hall e he hb
   rw [hon] at hl
   exact h.done j s hj hl hjd
 ·rintro v w' ⟨h1,h2,h3⟩
  cases hd : o.dst with
  | none =>
   have hdi : dstAt l i = none:=by simp [dstAt,ho,hd]
   have hput : a.put none v = a:=rfl
   rw [hput]
   refine ⟨h.head.set hr hi,h2,h.defers,h.size,h.other,?_,?_⟩
   ·intro j s hj hl hjs
    have hne : i ≠ j:=by rintro rfl; rw [hdi] at hjs; cases hjs
    rw [getD_set_ne false hne] at hl
    exact hmono j _ w w' hj h3 (h.done j s hj hl hjs)
   ·intro j hj hl hjn
    by_cases e : i = j
    ·subst e; exact hnone i v w' hi hdi h1
    ·rw [getD_set_ne false e] at hl
     exact hmono j _ w w' hj h3 (h.stored j hj hl hjn)
  | some d =>
   obtain ⟨hdN,hw⟩:=hdw d hd
   have hda : d < a.tmps.size:=by rw [h.size,hN]; exact hdN
   refine ⟨h.head.set hr hi,h2,h.defers,by simp [Act.put,h.size],?_,?_,?_⟩
   ·intro s hs
    rw [getD_put hda]
    have : s ≠ d:=by rintro rfl; rw [hw] at hs; cases hs
    rw [if_neg this]
    exact h.other s hs
   ·intro j s hj hl hjs
    rw [getD_put hda]
    by_cases e : s = d
    ·subst e
     rw [if_pos rfl]
     have hw2 : writer l n s = some j:=by
      obtain ⟨oj,hoj,_,hdwj,_⟩:=concWB_at hB hj
      have : oj.dst = some s:=by simpa [dstAt,hoj] using hjs
      exact (hdwj s this).2
     rw [hw] at hw2
     injection hw2 with e2
     subst e2
     exact h1
    ·rw [if_neg e]
     have hne : i ≠ j:=by
      rintro rfl
      simp only [dstAt,ho,Option.bind_some,hd] at hjs
      injection hjs with e3
      exact e e3.symm
     rw [getD_set_ne false hne] at hl
     exact hmono j _ w w' hj h3 (h.done j s hj hl hjs)
   ·intro j hj hl hjn
    have hne : i ≠ j:=by
     rintro rfl
     simp only [dstAt,ho,Option.bind_some,hd] at hjn
     cases hjn
    rw [getD_set_ne false hne] at hl
    exact hmono j _ w w' hj h3 (h.stored j hj hl hjn)
theorem CInvW.fin (hB : concWB l n N = true) (hN : a0.tmps.size = N) {k : Nat} {listed : Array Bool} {a : Act} {w : World} (h : CInvW l n a0 φ J k listed a w) (hall : ∀ i,i < n → listed.getD i false = true) :
  ∃ x : Nat → Value,(∀ i,i < n → φ i (x i) w ∨ (dstAt l i = none ∧ φ i undef w)) ∧ a = putAll (l.take n) 0 x a0:=by
 refine ⟨fun i => a.tmps.getD ((dstAt l i).getD 0) undef,fun i hi => ?_,?_⟩
 ·cases hds : dstAt l i with
  | none => exact Or.inr ⟨rfl,h.stored i hi (hall i hi) hds⟩
  | some d => exact Or.inl (by show φ i (a.tmps.getD ((dstAt l i).getD 0) undef) w; rw [hds]; exact h.done i d hi (hall i hi) hds)
 ·have hs:=putAll_size (l.take n) 0 (fun i => a.tmps.getD ((dstAt l i).getD 0) undef) a0
  have htm : a.tmps = (putAll (l.take n) 0 (fun i => a.tmps.getD ((dstAt l i).getD 0) undef) a0).tmps:=by
   apply Array.ext
   ·rw [hs.1,h.size]
   ·intro s h1 h2
    have hdt : ∀ j,dstAt (l.take n) j = some s → j < n ∧ dstAt l j = some s:=fun j hj => by
     unfold dstAt at hj ⊢
     rw [List.getElem?_take] at hj
     split at hj
     ·exact ⟨‹_›,hj⟩
     ·cases hj
    have:=putAll_get (l.take n) 0 (fun i => a.tmps.getD ((dstAt l i).getD 0) undef) a0 s (a.tmps.getD s undef) (by rw [← h.size]; exact h1)
     (fun j hj => by rw [Nat.zero_add,(hdt j hj).2]; rfl)
     (fun hno => by
      cases hw : writer l n s with
      | none => exact (h.other s hw).symm
      | some j =>
       obtain ⟨hj,hjd⟩:=writer_dst hw
       refine absurd ?_ (hno j)
       unfold dstAt at hjd ⊢
       rw [List.getElem?_take,if_pos hj]
       exact hjd)
    have e1 : a.tmps.getD s undef = a.tmps[s]:=by simp [h1]
    rw [e1] at this
    rw [← this]
    generalize putAll (l.take n) 0 _ a0 = p at h2
    simp [h2]
  obtain ⟨tm,df⟩:=a
  have e2:=h.defers
  simp only at htm e2
  generalize hp : putAll (l.take n) 0 (fun i => tm.getD ((dstAt l i).getD 0) undef) a0 = p at htm hs ⊢
  obtain ⟨tm',df'⟩:=p
  simp only at htm hs
  rw [htm,e2,hs.2]
end
open Go.RowKit
section
variable {P : Program} {l : List Oper} {n N : Nat} {a0 : Act} {φ : Nat → Value → World → Prop} {J : Array Bool → Act → World → Prop} {E : World → World → Prop} {Q : Exit → Act → World → Prop}
structure CInvV (l : List Oper) (n : Nat) (a0 : Act) (φ : Nat → Value → World → Prop) (J : Array Bool → Act → World → Prop) (listed : Array Bool) (a : Act) (w : World) : Prop where
 head : HeadInv .any l.toArray n listed
 world : J listed a w
 defers : a.defers = a0.defers
 size : a.tmps.size = a0.tmps.size
 other : ∀ s,writer l n s = none → a.tmps.getD s undef = a0.tmps.getD s undef
 done : ∀ i s,i < n → listed.getD i false = true → dstAt l i = some s → φ i (a.tmps.getD s undef) w
 stored : ∀ i,i < n → listed.getD i false = true → dstAt l i = none → φ i undef w
theorem CInvV.step (hB : concWB l n N = true) (hN : a0.tmps.size = N)
  (hmono : ∀ i x w w',i < n → E w w' → φ i x w → φ i x w') (hnone : ∀ i x w,i < n → dstAt l i = none → φ i x w → φ i undef w)
  (hstep : ∀ i o,i < n → l[i]? = some o → ∀ (a : Act) (w : World) (L : Array Bool),i ∈ Region.ready .any l.toArray L → a.tmps.size = a0.tmps.size → L.size = l.length → J L a w → (∀ s ∈ tmpsOf o,known l n a0.tmps φ s (a.tmps.getD s undef) w) → OpV P o a.eval w fun v w' => φ i v w' ∧ J (L.setIfInBounds i true) (a.put o.dst v) w' ∧ E w w')
  {listed : Array Bool} {a : Act} {w : World} (h : CInvV l n a0 φ J listed a w) {i : Nat} (hr : i ∈ Region.ready .any l.toArray listed) (hi : i < n) :
  wpOp P l.toArray Q i (fun a' w' => CInvV l n a0 φ J (listed.setIfInBounds i true) a' w') a w:=by
 obtain ⟨o,ho,hg,hdw,haft,hdep⟩:=concWB_at hB hi
 have ho' : l.toArray[i]? = some o:=by simpa using ho
 have hwant : Region.wanted o (yielded l.toArray a.tmps) = true:=by simp [Region.wanted,hg]
 unfold wpOp
 rw [ho']
 simp only [hwant,if_true]
 left
 refine OpV.wp (hstep i o hi ho a w listed hr h.size (by rw [h.head.size]; simp) h.world ?_) ?_
 ·intro s hs
  unfold known
  cases hws : writer l n s with
  | none => exact h.other s hws
  | some j =>
   obtain ⟨hj,hjd⟩:=writer_dst hws
   obtain ⟨_,oi,hoi,hall⟩:=mem_ready.1 hr
   obtain ⟨oj,hoj,e,he,hb,hon⟩:=Region.waitsFor_spec (hdep s hs j hws)
   have : oj = oi:=Option.some.inj (hoj.symm.trans hoi)
   subst this
   have hl:=hall e he hb
   rw [hon] at hl
   exact h.done j s hj hl hjd
 ·rintro v w' ⟨h1,h2,h3⟩
  cases hd : o.dst with
  | none =>
   have hdi : dstAt l i = none:=by simp [dstAt,ho,hd]
   have hput : a.put none v = a:=rfl
   rw [hd,hput] at h2
   rw [hput]
   refine ⟨h.head.set hr hi,h2,h.defers,h.size,h.other,?_,?_⟩
   ·intro j s hj hl hjs
    have hne : i ≠ j:=by rintro rfl; rw [hdi] at hjs; cases hjs
    rw [getD_set_ne false hne] at hl
    exact hmono j _ w w' hj h3 (h.done j s hj hl hjs)
   ·intro j hj hl hjn
    by_cases e : i = j
    ·subst e; exact hnone i v w' hi hdi h1
    ·rw [getD_set_ne false e] at hl
     exact hmono j _ w w' hj h3 (h.stored j hj hl hjn)
  | some d =>
   obtain ⟨hdN,hw⟩:=hdw d hd
   have hda : d < a.tmps.size:=by rw [h.size,hN]; exact hdN
   rw [hd] at h2
   refine ⟨h.head.set hr hi,h2,h.defers,by simp [Act.put,h.size],?_,?_,?_⟩
   ·intro s hs
    rw [getD_put hda]
    have : s ≠ d:=by rintro rfl; rw [hw] at hs; cases hs
    rw [if_neg this]
    exact h.other s hs
   ·intro j s hj hl hjs
    rw [getD_put hda]
    by_cases e : s = d
    ·subst e
     rw [if_pos rfl]
     have hw2 : writer l n s = some j:=by
      obtain ⟨oj,hoj,_,hdwj,_⟩:=concWB_at hB hj
      have : oj.dst = some s:=by simpa [dstAt,hoj] using hjs
      exact (hdwj s this).2
     rw [hw] at hw2
     injection hw2 with e2
     subst e2
     exact h1
    ·rw [if_neg e]
     have hne : i ≠ j:=by
      rintro rfl
      simp only [dstAt,ho,Option.bind_some,hd] at hjs
      injection hjs with e3
      exact e e3.symm
     rw [getD_set_ne false hne] at hl
     exact hmono j _ w w' hj h3 (h.done j s hj hl hjs)
   ·intro j hj hl hjn
    have hne : i ≠ j:=by
     rintro rfl
     simp only [dstAt,ho,Option.bind_some,hd] at hjn
     cases hjn
    rw [getD_set_ne false hne] at hl
    exact hmono j _ w w' hj h3 (h.stored j hj hl hjn)
theorem CInvV.fin (hB : concWB l n N = true) (hN : a0.tmps.size = N) {listed : Array Bool} {a : Act} {w : World} (h : CInvV l n a0 φ J listed a w) (hall : ∀ i,i < n → listed.getD i false = true) :
  ∃ x : Nat → Value,(∀ i,i < n → φ i (x i) w ∨ (dstAt l i = none ∧ φ i undef w)) ∧ (∀ i s,dstAt l i = some s → a.tmps.getD s undef = x i) ∧ a = putAll (l.take n) 0 x a0:=by
 refine ⟨fun i => a.tmps.getD ((dstAt l i).getD 0) undef,fun i hi => ?_,fun i s hs => (by show _ = a.tmps.getD ((dstAt l i).getD 0) undef; rw [hs]; rfl),?_⟩
 ·cases hds : dstAt l i with
  | none => exact Or.inr ⟨rfl,h.stored i hi (hall i hi) hds⟩
  | some d => exact Or.inl (by show φ i (a.tmps.getD ((dstAt l i).getD 0) undef) w; rw [hds]; exact h.done i d hi (hall i hi) hds)
 ·have hs:=putAll_size (l.take n) 0 (fun i => a.tmps.getD ((dstAt l i).getD 0) undef) a0
  have htm : a.tmps = (putAll (l.take n) 0 (fun i => a.tmps.getD ((dstAt l i).getD 0) undef) a0).tmps:=by
   apply Array.ext
   ·rw [hs.1,h.size]
   ·intro s h1 h2
    have hdt : ∀ j,dstAt (l.take n) j = some s → j < n ∧ dstAt l j = some s:=fun j hj => by
     unfold dstAt at hj ⊢
     rw [List.getElem?_take] at hj
     split at hj
     ·exact ⟨‹_›,hj⟩
     ·cases hj
    have:=putAll_get (l.take n) 0 (fun i => a.tmps.getD ((dstAt l i).getD 0) undef) a0 s (a.tmps.getD s undef) (by rw [← h.size]; exact h1)
     (fun j hj => by rw [Nat.zero_add,(hdt j hj).2]; rfl)
     (fun hno => by
      cases hw : writer l n s with
      | none => exact (h.other s hw).symm
      | some j =>
       obtain ⟨hj,hjd⟩:=writer_dst hw
       refine absurd ?_ (hno j)
       unfold dstAt at hjd ⊢
       rw [List.getElem?_take,if_pos hj]
       exact hjd)
    have e1 : a.tmps.getD s undef = a.tmps[s]:=by simp [h1]
    rw [e1] at this
    rw [← this]
    generalize putAll (l.take n) 0 _ a0 = p at h2
    simp [h2]
  obtain ⟨tm,df⟩:=a
  have e2:=h.defers
  simp only at htm e2
  generalize hp : putAll (l.take n) 0 (fun i => tm.getD ((dstAt l i).getD 0) undef) a0 = p at htm hs ⊢
  obtain ⟨tm',df'⟩:=p
  simp only at htm hs
  rw [htm,e2,hs.2]
theorem wpAny_concV (hB : concWB l n N = true) (hN : a0.tmps.size = N)
  (hmono : ∀ i x w w',i < n → E w w' → φ i x w → φ i x w') (hnone : ∀ i x w,i < n → dstAt l i = none → φ i x w → φ i undef w)
  (hstep : ∀ i o,i < n → l[i]? = some o → ∀ (a : Act) (w : World) (L : Array Bool),i ∈ Region.ready .any l.toArray L → a.tmps.size = a0.tmps.size → L.size = l.length → J L a w → (∀ s ∈ tmpsOf o,known l n a0.tmps φ s (a.tmps.getD s undef) w) → OpV P o a.eval w fun v w' => φ i v w' ∧ J (L.setIfInBounds i true) (a.put o.dst v) w' ∧ E w w')
  (hend : ∀ (x : Nat → Value) (w' : World) (L : Array Bool),(∀ i,i < n → L.getD i false = true) → J L (putAll (l.take n) 0 x a0) w' → (∀ i s,dstAt l i = some s → (putAll (l.take n) 0 x a0).tmps.getD s undef = x i) → (∀ i,i < n → φ i (x i) w' ∨ (dstAt l i = none ∧ φ i undef w')) → wpList P l.toArray Q (l.drop n) (putAll (l.take n) 0 x a0) w') :
  ∀ (c : Nat) (listed : Array Bool) (a : Act) (w : World),c ≤ n → CInvV l n a0 φ J listed a w → ((List.range n).countP fun j => !listed.getD j true) = c → wpAny P .any l.toArray Q (c + (l.length - n)) listed a w:=by
 have hB':=hB
 simp only [concWB,Bool.and_eq_true,decide_eq_true_eq] at hB'
 obtain ⟨⟨⟨⟨hn,hsink⟩,hchain⟩,hseq⟩,_⟩:=hB'
 intro c
 induction c with
 | zero =>
  intro listed a w hcn h hc
  have hall : ∀ i,i < n → listed.getD i false = true:=fun i hi => by
   have:=List.countP_eq_zero.1 hc i (List.mem_range.2 hi)
   have hsz:=h.head.size
   have his : i < listed.size:=by rw [hsz]; simp; omega
   simp [his] at this ⊢
   exact this
  obtain ⟨x,hx,hg,rfl⟩:=h.fin hB hN hall
  have he:=allTrue_eq (n:=n) (m:=l.length) (by rw [h.head.size]; simp) hall (fun t h1 h2 => h.head.tail t h1 (by simpa using h2))
  have:=wpAny_of_seq (P:=P) (ops:=l.toArray) (md:=.any) (Q':=Q) (l.drop n) n listed (putAll (l.take n) 0 x a0) w (fun j => by simp [List.getElem?_drop]) (by rw [List.length_drop,he]; exact hseq) (hend x w listed hall h.world hg hx)
  rw [List.length_drop] at this
  rw [Nat.zero_add]
  exact this
 | succ c ih =>
  intro listed a w hcn h hc
  have hex : ∃ i,i < n ∧ listed.getD i true = false:=by
   have : 0 < (List.range n).countP fun j => !listed.getD j true:=by omega
   obtain ⟨i,hi,hl⟩:=List.countP_pos_iff.1 this
   exact ⟨i,List.mem_range.1 hi,by simpa using hl⟩
  have hne : Region.ready .any l.toArray listed ≠ []:=by
   have : ∀ m i,i < n → i ≤ m → listed.getD i true = false → ∃ k,k ∈ Region.ready .any l.toArray listed:=by
    intro m
    induction m with
    | zero =>
     intro i hi hm hl
     obtain rfl : i = 0:=by omega
     obtain ⟨o,ho,_,_,haft,_⟩:=concWB_at hB hi
     refine ⟨0,mem_ready.2 ⟨hl,o,by simpa using ho,fun e he hb => ?_⟩⟩
     have:=haft e he hb
     omega
    | succ m ihm =>
     intro i hi hm hl
     obtain ⟨o,ho,_,_,haft,_⟩:=concWB_at hB hi
     by_cases hd : ∀ e ∈ o.after,Region.binds .any e = true → listed.getD e.on false = true
     ·exact ⟨i,mem_ready.2 ⟨hl,o,by simpa using ho,hd⟩⟩
     ·obtain ⟨e,hd⟩:=Classical.not_forall.1 hd
      obtain ⟨he,hd⟩:=Classical.not_forall.1 hd
      obtain ⟨hb,hd⟩:=Classical.not_forall.1 hd
      have hlt:=haft e he hb
      have hes : e.on < listed.size:=by rw [h.head.size]; simp; omega
      exact ihm e.on (by omega) (by omega) (getD_in hes (by simpa using hd))
   obtain ⟨i,hi,hl⟩:=hex
   obtain ⟨k,hk⟩:=this i i hi (Nat.le_refl _) hl
   intro e
   rw [e] at hk
   cases hk
  rw [show c + 1 + (l.length - n) = (c + (l.length - n)) + 1 from by omega]
  refine ⟨fun e => absurd e hne,fun i hi => ?_⟩
  obtain ⟨k,hk,hkl⟩:=hex
  have hin : i < n:=by
   rcases Nat.lt_or_ge i n with h' | h'
   ·exact h'
   ·exact absurd hi (tail_waits hsink hchain (by simpa using hn) h.head (n - k) k rfl hk hkl i h')
  refine wpOp_mono (fun a' w' h' => ih _ _ _ (by omega) h' ?_) (CInvV.step hB hN hmono hnone hstep h hi hin)
  have hl:=(mem_ready.1 hi).1
  have:=countP_set hin hl
  omega
theorem wp_region_concV {id : Nat} {w : World} (n N : Nat) (φ : Nat → Value → World → Prop) (J : Array Bool → Act → World → Prop) (E : World → World → Prop) (hm : P.follows .mixedOrders = true) (hB : concWB l n N = true) (hN : a0.tmps.size = N)
  (hJ : J (Array.replicate l.toArray.size false) a0 w.drew) (hmono : ∀ i x w w',i < n → E w w' → φ i x w → φ i x w') (hnone : ∀ i x w,i < n → dstAt l i = none → φ i x w → φ i undef w)
  (hstep : ∀ i o,i < n → l[i]? = some o → ∀ (a : Act) (w : World) (L : Array Bool),i ∈ Region.ready .any l.toArray L → a.tmps.size = a0.tmps.size → L.size = l.length → J L a w → (∀ s ∈ tmpsOf o,known l n a0.tmps φ s (a.tmps.getD s undef) w) → OpV P o a.eval w fun v w' => φ i v w' ∧ J (L.setIfInBounds i true) (a.put o.dst v) w' ∧ E w w')
  (hend : ∀ (x : Nat → Value) (w' : World) (L : Array Bool),(∀ i,i < n → L.getD i false = true) → J L (putAll (l.take n) 0 x a0) w' → (∀ i s,dstAt l i = some s → (putAll (l.take n) 0 x a0).tmps.getD s undef = x i) → (∀ i,i < n → φ i (x i) w' ∨ (dstAt l i = none ∧ φ i undef w')) → wpList P l.toArray Q (l.drop n) (putAll (l.take n) 0 x a0) w') :
  (Code.region id l.toArray true).wp P Q a0 w:=by
 refine wp_region_any hm ?_
 have hn : n < l.length:=by
  simp only [concWB,Bool.and_eq_true,decide_eq_true_eq] at hB
  exact hB.1.1.1.1
 have h0 : CInvV l n a0 φ J (Array.replicate l.toArray.size false) a0 w.drew:=by
  refine ⟨⟨by simp,fun j oj _ hl => (by rw [getD_replicate_false] at hl; cases hl),fun t _ ht => getD_in (by simpa using ht) (getD_replicate_false _ _)⟩,hJ,rfl,rfl,fun _ _ => rfl,fun i s _ hl => (by rw [getD_replicate_false] at hl; cases hl),fun i _ hl => by rw [getD_replicate_false] at hl; cases hl⟩
 have hc : ((List.range n).countP fun j => !(Array.replicate l.toArray.size false).getD j true) = n:=by
  have : ((List.range n).countP fun j => !(Array.replicate l.toArray.size false).getD j true) = (List.range n).length:=by
   rw [List.countP_eq_length]
   intro j hj
   have:=List.mem_range.1 hj
   have h2 : j < l.length:=by omega
   simp [h2]
  rw [this,List.length_range]
 have:=wpAny_concV (Q:=Q) hB hN hmono hnone hstep hend n _ _ _ (Nat.le_refl _) h0 hc
 rw [show n + (l.length - n) = l.toArray.size from by simp; omega] at this
 exact this
end
open Go.RowKit
theorem OpV.append {P : Program} {o : Oper} {a : Act} {w w' : World} {R : Value → World → Prop} (s x : Operand) (t : TypeId) (vs vx v' : Value) (hop : o.op = .call { callee:=.builtin .append,args:=#[s,x],argTypes:=#[t,t] })
  (hs : a.eval s = vs) (hx : a.eval x = vx) (hrun : (Builtin.append_ #[t,t] o.type #[vs,vx]).run P w = .ok v' w') (h : R v' w') : OpV P o a.eval w R:=by
 unfold OpV
 simp [execOp,hop,resolve,invoke,builtin,hs,hx,hrun,Result.andThen]
 exact h
end Go.Proofs.YtbidhpgjmcedaaaGreatDoor
