/- Texts of this claim, put together: FindC, ConcW, ConcV, AppRow. -/
import Derived.Test.YtcncifmanodabaaGreatDoorGAU
import Derived.Test.YtcncifmanodabaaGreatDoorGAB
import Derived.StillTailTactics
import Derived.Deep.Cut
import Derived.Test.YtcncifmanodabaaGreatDoorGAC
import Derived.Test.YtcncifmanodabaaGreatDoorGAN
namespace Go.Proofs.YtcncifmanodabaaGreatDoor
set_option linter.unusedVariables false
open Go.RowKit
structure RtS (pr g n:Nat) (r:List Nat) (W:World):Prop where
 ptr:W.heap[pr]? = some (.cells #[.slice (some ⟨g,0,none⟩) n n] 22 (0,0))
 blk:KBlk W g 3 1 fI (tab n fun k => ((r.getD k k:Nat):Int)) []
 ne:pr ≠ g
 len:r.length = n
section
variable {pr g n:Nat} {r:List Nat} {W W':World}
theorem RtS.cell (h:RtS pr g n r W) (i:Nat) (hi:i < n):W.cell? ⟨g,i,none⟩ = some (.int .i64 ((r.getD i i:Nat):Int)):=by
 have:=h.blk.cell1 i (by rw [tab_len];exact hi)
 rw [tab_get] at this
 exact this
theorem RtS.set (h:RtS pr g n r W) (i:Nat) (hi:i < n) (x:Nat):RtS pr g n (r.set i x) (W.setCell ⟨g,i,none⟩ (.int .i64 (x:Int))):=by
 have hne:=h.ne
 refine ⟨?_,?_,h.ne,by rw [List.length_set];exact h.len⟩
 ·exact (Below.heap_setCell W ⟨g,i,none⟩ _ pr h.ne).trans h.ptr
 ·have:=h.blk.set1 i (by rw [tab_len];exact hi) (x:Int)
  rw [tab_set] at this
  rw [tab_congr (G:=fun k => if k = i then (x:Int) else ((r.getD k k:Nat):Int))]
  ·exact this
  ·intro k hk
   rw [getD_set (by rw [h.len];exact hi)]
   split <;> rfl
theorem RtS.drew (h:RtS pr g n r W):RtS pr g n r W.drew:=⟨h.ptr,h.blk,h.ne,h.len⟩
theorem grown_drewC {a b:World} {row:Option Nat} (h:a.grownBy b row):a.grownBy b.drew row:=⟨h.os,h.tape,h.output,h.size,h.block⟩
theorem RtS.kept (h:RtS pr g n r W) {row:Option Nat} (hg:W.grownBy W' row) (h1:some pr ≠ row) (h2:some g ≠ row):RtS pr g n r W' :=
 ⟨(hg.block _ (lt_of_heap h.ptr) h1).trans h.ptr,(hg.block _ (lt_of_heap h.blk) h2).trans h.blk,h.ne,h.len⟩
theorem RtS.below (h:RtS pr g n r W) (hb:Below W.heap.size W W'):RtS pr g n r W' :=
 h.kept (row:=none) ⟨hb.os,hb.tape,hb.output,hb.size,fun i hi _ => hb.block i hi⟩ (by simp) (by simp)
end
def FindQ (pr g n:Nat) (r0:List Nat) (w w':World):Prop:=∃ r,RtS pr g n r w' ∧ Dn r ∧ (∀ j,repN r j = repN r0 j) ∧ w.grownBy w' (some g) ∧ ∀ q,r0.getD q q = repN r0 q → r.getD q q = repN r0 q
set_option maxHeartbeats 2000000 in
set_option maxRecDepth 100000 in
theorem find_any (pr g n:Nat) (r0:List Nat) (w:World) (hr:RtS pr g n r0 w) (hd:Dn r0) (i0:Nat) (hi:i0 < n) (hn:n ≤ 1000000) :
  Calls Tryz.prog 117 #[.int .i64 (i0:Int),.pointer (some ⟨pr,0,none⟩)] w fun e w' => e = .returned (.int .i64 ((repN r0 i0:Nat):Int)) ∧ FindQ pr g n r0 w w':=by
 have J0:Hid (FindQ pr g n r0 w w):=⟨r0,hr,hd,fun _ => rfl,World.grownBy.refl _ _,fun _ h => h⟩
 clear hr
 go_enter Tryz.func117,Tryz.ntmps117
 go_wp2_with fail
 go_loopw [0] (fun t wr => ∃ i:Nat,t = .int .i64 (i:Int) ∧ i < n ∧ Hid (repN r0 i = repN r0 i0) ∧ Hid (FindQ pr g n r0 w wr)) (fun t _ => (intOf t).toNat)
 case atStart => exact ⟨i0,rfl,hi,rfl,J0⟩
 case round =>
  obtain ⟨i,rfl,hi,hrep,J⟩:=hrel
  clear J0
  obtain ⟨r,hR,hD,hJ,hG,hFL⟩:=J.out
  clear J
  have p0:wr.cell? ⟨pr,0,none⟩ = some (.slice (some ⟨g,0,none⟩) n n):=cell_h hR.ptr 0 rfl
  have c0:=hR.cell i hi
  have hle:=hD i
  have hle2:=hD (r.getD i i)
  by_cases e:r.getD i i = i
  ·have HF:Hid (((i:Nat):Int) = ((repN r0 i0:Nat):Int) ∧ FindQ pr g n r0 w wr):=by
    refine ⟨?_,r,hR,hD,hJ,hG,hFL⟩
    rw [← hrep.out,← hJ,repN_root hD e]
   rw [e] at c0
   clear hle hle2 hR hD hJ hG hFL e
   go_wp2_with fail
   go_ret
   exact ⟨ret_int HF.out.1,HF.out.2⟩
  ·have hx:r.getD i i < n:=by omega
   have c1:=hR.cell (r.getD i i) hx
   have HR2:Hid (RtS pr g n (r.set i (r.getD (r.getD i i) (r.getD i i))) (wr.setCell ⟨g,i,none⟩ (.int .i64 ((r.getD (r.getD i i) (r.getD i i):Nat):Int))).drew):=(hR.set i hi (r.getD (r.getD i i) (r.getD i i))).drew
   have HD2:=Lib.hid (hD.half (i:=i) (by rw [hR.len];exact hi))
   have HJ2:Hid (∀ j,repN (r.set i (r.getD (r.getD i i) (r.getD i i))) j = repN r0 j):=fun j => by rw [repN_half hD (by rw [hR.len];exact hi),hJ]
   have HFL2:Hid (∀ q,r0.getD q q = repN r0 q → (r.set i (r.getD (r.getD i i) (r.getD i i))).getD q q = repN r0 q):=fun q hq => by
    rw [← hJ q]
    exact flat_half hD (by rw [hR.len];exact hi) (by rw [hJ q];exact hFL q hq)
   have HP2:Hid (repN r0 (r.getD (r.getD i i) (r.getD i i)) = repN r0 i0):=by
    show _ = _
    rw [← hrep.out,← hJ,← hJ,repN_go hD i,repN_go hD (r.getD i i)]
   have HG2:Hid (w.grownBy (wr.setCell ⟨g,i,none⟩ (.int .i64 ((r.getD (r.getD i i) (r.getD i i):Nat):Int))).drew (some g)):=grown_drewC (grown_setC hG i _)
   have HX2:Hid ((r.set i (r.getD (r.getD i i) (r.getD i i))).getD i i = r.getD (r.getD i i) (r.getD i i)):=by show _ = _;rw [getD_set (by rw [hR.len];exact hi),if_pos rfl]
   have hf:wr.frozen? ⟨g,i,none⟩ = false:=hR.blk.frozen i
   have hlen:=hR.len
   clear hR hD hJ hG hrep hFL
   generalize r.set i (r.getD (r.getD i i) (r.getD i i)) = r2 at *
   generalize r.getD (r.getD i i) (r.getD i i) = x2 at *
   generalize r.getD i i = x at *
   have k1:((x:Int) != (i:Int)) = true:=by simp;omega
   have hxi:x < i:=by omega
   clear e
   go_wp2_with fail
   go_still_tail 10,(by kernel_rfl)
   change wpList _ _ _ _ _ wr.drew
   go_upto_region 3 with (fail)
   generalize (wr.setCell ⟨g,i,none⟩ (.int .i64 (x2:Int))).drew = W3 at *
   clear p0 c0 c1 hf
   have p0:W3.cell? ⟨pr,0,none⟩ = some (.slice (some ⟨g,0,none⟩) n n):=cell_h HR2.out.ptr 0 rfl
   have c0:=HR2.out.cell i hi
   rw [HX2.out] at c0
   go_wp2_with fail
   go_roundw
   case rel => exact ⟨x2,rfl,by omega,HP2,⟨r2,HR2.out,HD2.out,HJ2.out,HG2.out,HFL2.out⟩⟩
   case measure => simp [intOf];omega
open Go.RowKit
def concWB (l:List Oper) (n N:Nat):Bool :=
 decide (n < l.length) && Region.sinkB .any l.toArray n && Region.chainB .any l.toArray n && Region.seqB .any l.toArray (l.length - n) n (allTrue n l.length) &&
 ((List.range n).all fun i => match l[i]? with
  | some o => o.guard.isNone && (match o.dst with | some d => decide (d < N) && decide (writer l n d = some i) | none => true) &&
    (o.after.toList.all fun e => !Region.binds .any e || decide (e.on < i)) &&
    ((tmpsOf o).all fun s => match writer l n s with | some j => Region.waitsFor .any l.toArray i j | none => true)
  | none => false)
section
variable {P:Program} {l:List Oper} {n N:Nat} {a0:Act} {φ:Nat → Value → World → Prop} {J:Nat → World → Prop} {E:World → World → Prop} {Q:Exit → Act → World → Prop}
theorem concWB_at (h:concWB l n N = true) {i:Nat} (hi:i < n):∃ o,l[i]? = some o ∧ o.guard = none ∧ (∀ d,o.dst = some d → d < N ∧ writer l n d = some i) ∧ (∀ e ∈ o.after,Region.binds .any e = true → e.on < i) ∧ ∀ s ∈ tmpsOf o,∀ j,writer l n s = some j → Region.waitsFor .any l.toArray i j = true:=by
 simp only [concWB,Bool.and_eq_true] at h
 have h1:=List.all_eq_true.1 h.2 i (List.mem_range.2 hi)
 cases ho:l[i]? with
 | none => rw [ho] at h1;cases h1
 | some o =>
  rw [ho] at h1
  simp only [Bool.and_eq_true] at h1
  obtain ⟨⟨⟨g1,g2⟩,g3⟩,g4⟩:=h1
  refine ⟨o,rfl,by simpa using g1,?_,?_,?_⟩
  ·intro d hd
   rw [hd] at g2
   simpa only [Bool.and_eq_true,decide_eq_true_eq] using g2
  ·intro e he hb
   have:=List.all_eq_true.1 g3 e (by simpa using he)
   simpa [hb] using this
  ·intro s hs j hj
   have:=List.all_eq_true.1 g4 s hs
   rw [hj] at this
   exact this
structure CInvW (l:List Oper) (n:Nat) (a0:Act) (φ:Nat → Value → World → Prop) (J:Nat → World → Prop) (k:Nat) (listed:Array Bool) (a:Act) (w:World):Prop where
 head:HeadInv .any l.toArray n listed
 world:J k w
 defers:a.defers = a0.defers
 size:a.tmps.size = a0.tmps.size
 other:∀ s,writer l n s = none → a.tmps.getD s undef = a0.tmps.getD s undef
 done:∀ i s,i < n → listed.getD i false = true → dstAt l i = some s → φ i (a.tmps.getD s undef) w
 stored:∀ i,i < n → listed.getD i false = true → dstAt l i = none → φ i undef w
theorem CInvW.step (hB:concWB l n N = true) (hN:a0.tmps.size = N)
  (hmono:∀ i x w w',i < n → E w w' → φ i x w → φ i x w') (hnone:∀ i x w,i < n → dstAt l i = none → φ i x w → φ i undef w)
  (hstep:∀ i o,i < n → l[i]? = some o → ∀ (a:Act) (w:World) (k:Nat),k < n → J k w → (∀ s ∈ tmpsOf o,known l n a0.tmps φ s (a.tmps.getD s undef) w) → OpV P o a.eval w fun v w' => φ i v w' ∧ J (k + 1) w' ∧ E w w')
  {k:Nat} (hk:k < n) {listed:Array Bool} {a:Act} {w:World} (h:CInvW l n a0 φ J k listed a w) {i:Nat} (hr:i ∈ Region.ready .any l.toArray listed) (hi:i < n) :
  wpOp P l.toArray Q i (fun a' w' => CInvW l n a0 φ J (k + 1) (listed.setIfInBounds i true) a' w') a w:=by
 obtain ⟨o,ho,hg,hdw,haft,hdep⟩:=concWB_at hB hi
 have ho':l.toArray[i]? = some o:=by simpa using ho
 have hwant:Region.wanted o (yielded l.toArray a.tmps) = true:=by simp [Region.wanted,hg]
 unfold wpOp
 rw [ho']
 simp only [hwant,if_true]
 left
 refine OpV.wp (hstep i o hi ho a w k hk h.world ?_) ?_
 ·intro s hs
  unfold known
  cases hws:writer l n s with
  | none => exact h.other s hws
  | some j =>
   obtain ⟨hj,hjd⟩:=writer_dst hws
   obtain ⟨_,oi,hoi,hall⟩:=mem_ready.1 hr
   obtain ⟨oj,hoj,e,he,hb,hon⟩:=Region.waitsFor_spec (hdep s hs j hws)
   have:oj = oi:=Option.some.inj (hoj.symm.trans hoi)
   subst this
   have hl:=hall e he hb
   rw [hon] at hl
   exact h.done j s hj hl hjd
 ·rintro v w' ⟨h1,h2,h3⟩
  cases hd:o.dst with
  | none =>
   have hdi:dstAt l i = none:=by simp [dstAt,ho,hd]
   have hput:a.put none v = a:=rfl
   rw [hput]
   refine ⟨h.head.set hr hi,h2,h.defers,h.size,h.other,?_,?_⟩
   ·intro j s hj hl hjs
    have hne:i ≠ j:=by rintro rfl;rw [hdi] at hjs;cases hjs
    rw [getD_set_ne false hne] at hl
    exact hmono j _ w w' hj h3 (h.done j s hj hl hjs)
   ·intro j hj hl hjn
    by_cases e:i = j
    ·subst e;exact hnone i v w' hi hdi h1
    ·rw [getD_set_ne false e] at hl
     exact hmono j _ w w' hj h3 (h.stored j hj hl hjn)
  | some d =>
   obtain ⟨hdN,hw⟩:=hdw d hd
   have hda:d < a.tmps.size:=by rw [h.size,hN];exact hdN
   refine ⟨h.head.set hr hi,h2,h.defers,by simp [Act.put,h.size],?_,?_,?_⟩
   ·intro s hs
    rw [getD_put hda]
    have:s ≠ d:=by rintro rfl;rw [hw] at hs;cases hs
    rw [if_neg this]
    exact h.other s hs
   ·intro j s hj hl hjs
    rw [getD_put hda]
    by_cases e:s = d
    ·subst e
     rw [if_pos rfl]
     have hw2:writer l n s = some j:=by
      obtain ⟨oj,hoj,_,hdwj,_⟩:=concWB_at hB hj
      have:oj.dst = some s:=by simpa [dstAt,hoj] using hjs
      exact (hdwj s this).2
     rw [hw] at hw2
     injection hw2 with e2
     subst e2
     exact h1
    ·rw [if_neg e]
     have hne:i ≠ j:=by
      rintro rfl
      simp only [dstAt,ho,Option.bind_some,hd] at hjs
      injection hjs with e3
      exact e e3.symm
     rw [getD_set_ne false hne] at hl
     exact hmono j _ w w' hj h3 (h.done j s hj hl hjs)
   ·intro j hj hl hjn
    have hne:i ≠ j:=by
     rintro rfl
     simp only [dstAt,ho,Option.bind_some,hd] at hjn
     cases hjn
    rw [getD_set_ne false hne] at hl
    exact hmono j _ w w' hj h3 (h.stored j hj hl hjn)
theorem CInvW.fin (hB:concWB l n N = true) (hN:a0.tmps.size = N) {k:Nat} {listed:Array Bool} {a:Act} {w:World} (h:CInvW l n a0 φ J k listed a w) (hall:∀ i,i < n → listed.getD i false = true) :
  ∃ x:Nat → Value,(∀ i,i < n → φ i (x i) w ∨ (dstAt l i = none ∧ φ i undef w)) ∧ a = putAll (l.take n) 0 x a0:=by
 refine ⟨fun i => a.tmps.getD ((dstAt l i).getD 0) undef,fun i hi => ?_,?_⟩
 ·cases hds:dstAt l i with
  | none => exact Or.inr ⟨rfl,h.stored i hi (hall i hi) hds⟩
  | some d => exact Or.inl (by show φ i (a.tmps.getD ((dstAt l i).getD 0) undef) w;rw [hds];exact h.done i d hi (hall i hi) hds)
 ·have hs:=putAll_size (l.take n) 0 (fun i => a.tmps.getD ((dstAt l i).getD 0) undef) a0
  have htm:a.tmps = (putAll (l.take n) 0 (fun i => a.tmps.getD ((dstAt l i).getD 0) undef) a0).tmps:=by
   apply Array.ext
   ·rw [hs.1,h.size]
   ·intro s h1 h2
    have hdt:∀ j,dstAt (l.take n) j = some s → j < n ∧ dstAt l j = some s:=fun j hj => by
     unfold dstAt at hj ⊢
     rw [List.getElem?_take] at hj
     split at hj
     ·exact ⟨‹_›,hj⟩
     ·cases hj
    have:=putAll_get (l.take n) 0 (fun i => a.tmps.getD ((dstAt l i).getD 0) undef) a0 s (a.tmps.getD s undef) (by rw [← h.size];exact h1)
     (fun j hj => by rw [Nat.zero_add,(hdt j hj).2];rfl)
     (fun hno => by
      cases hw:writer l n s with
      | none => exact (h.other s hw).symm
      | some j =>
       obtain ⟨hj,hjd⟩:=writer_dst hw
       refine absurd ?_ (hno j)
       unfold dstAt at hjd ⊢
       rw [List.getElem?_take,if_pos hj]
       exact hjd)
    have e1:a.tmps.getD s undef = a.tmps[s]:=by simp [h1]
    rw [e1] at this
    rw [← this]
    generalize putAll (l.take n) 0 _ a0 = p at h2
    simp [h2]
  obtain ⟨tm,df⟩:=a
  have e2:=h.defers
  simp only at htm e2
  generalize hp:putAll (l.take n) 0 (fun i => tm.getD ((dstAt l i).getD 0) undef) a0 = p at htm hs ⊢
  obtain ⟨tm',df'⟩:=p
  simp only at htm hs
  rw [htm,e2,hs.2]
end
open Go.RowKit
section
variable {P:Program} {l:List Oper} {n N:Nat} {a0:Act} {φ:Nat → Value → World → Prop} {J:Array Bool → Act → World → Prop} {E:World → World → Prop} {Q:Exit → Act → World → Prop}
structure CInvV (l:List Oper) (n:Nat) (a0:Act) (φ:Nat → Value → World → Prop) (J:Array Bool → Act → World → Prop) (listed:Array Bool) (a:Act) (w:World):Prop where
 head:HeadInv .any l.toArray n listed
 world:J listed a w
 defers:a.defers = a0.defers
 size:a.tmps.size = a0.tmps.size
 other:∀ s,writer l n s = none → a.tmps.getD s undef = a0.tmps.getD s undef
 done:∀ i s,i < n → listed.getD i false = true → dstAt l i = some s → φ i (a.tmps.getD s undef) w
 stored:∀ i,i < n → listed.getD i false = true → dstAt l i = none → φ i undef w
theorem CInvV.step (hB:concWB l n N = true) (hN:a0.tmps.size = N)
  (hmono:∀ i x w w',i < n → E w w' → φ i x w → φ i x w') (hnone:∀ i x w,i < n → dstAt l i = none → φ i x w → φ i undef w)
  (hstep:∀ i o,i < n → l[i]? = some o → ∀ (a:Act) (w:World) (L:Array Bool),i ∈ Region.ready .any l.toArray L → a.tmps.size = a0.tmps.size → L.size = l.length → J L a w → (∀ s ∈ tmpsOf o,known l n a0.tmps φ s (a.tmps.getD s undef) w) → OpV P o a.eval w fun v w' => φ i v w' ∧ J (L.setIfInBounds i true) (a.put o.dst v) w' ∧ E w w')
  {listed:Array Bool} {a:Act} {w:World} (h:CInvV l n a0 φ J listed a w) {i:Nat} (hr:i ∈ Region.ready .any l.toArray listed) (hi:i < n) :
  wpOp P l.toArray Q i (fun a' w' => CInvV l n a0 φ J (listed.setIfInBounds i true) a' w') a w:=by
 obtain ⟨o,ho,hg,hdw,haft,hdep⟩:=concWB_at hB hi
 have ho':l.toArray[i]? = some o:=by simpa using ho
 have hwant:Region.wanted o (yielded l.toArray a.tmps) = true:=by simp [Region.wanted,hg]
 unfold wpOp
 rw [ho']
 simp only [hwant,if_true]
 left
 refine OpV.wp (hstep i o hi ho a w listed hr h.size (by rw [h.head.size];simp) h.world ?_) ?_
 ·intro s hs
  unfold known
  cases hws:writer l n s with
  | none => exact h.other s hws
  | some j =>
   obtain ⟨hj,hjd⟩:=writer_dst hws
   obtain ⟨_,oi,hoi,hall⟩:=mem_ready.1 hr
   obtain ⟨oj,hoj,e,he,hb,hon⟩:=Region.waitsFor_spec (hdep s hs j hws)
   have:oj = oi:=Option.some.inj (hoj.symm.trans hoi)
   subst this
   have hl:=hall e he hb
   rw [hon] at hl
   exact h.done j s hj hl hjd
 ·rintro v w' ⟨h1,h2,h3⟩
  cases hd:o.dst with
  | none =>
   have hdi:dstAt l i = none:=by simp [dstAt,ho,hd]
   have hput:a.put none v = a:=rfl
   rw [hd,hput] at h2
   rw [hput]
   refine ⟨h.head.set hr hi,h2,h.defers,h.size,h.other,?_,?_⟩
   ·intro j s hj hl hjs
    have hne:i ≠ j:=by rintro rfl;rw [hdi] at hjs;cases hjs
    rw [getD_set_ne false hne] at hl
    exact hmono j _ w w' hj h3 (h.done j s hj hl hjs)
   ·intro j hj hl hjn
    by_cases e:i = j
    ·subst e;exact hnone i v w' hi hdi h1
    ·rw [getD_set_ne false e] at hl
     exact hmono j _ w w' hj h3 (h.stored j hj hl hjn)
  | some d =>
   obtain ⟨hdN,hw⟩:=hdw d hd
   have hda:d < a.tmps.size:=by rw [h.size,hN];exact hdN
   rw [hd] at h2
   refine ⟨h.head.set hr hi,h2,h.defers,by simp [Act.put,h.size],?_,?_,?_⟩
   ·intro s hs
    rw [getD_put hda]
    have:s ≠ d:=by rintro rfl;rw [hw] at hs;cases hs
    rw [if_neg this]
    exact h.other s hs
   ·intro j s hj hl hjs
    rw [getD_put hda]
    by_cases e:s = d
    ·subst e
     rw [if_pos rfl]
     have hw2:writer l n s = some j:=by
      obtain ⟨oj,hoj,_,hdwj,_⟩:=concWB_at hB hj
      have:oj.dst = some s:=by simpa [dstAt,hoj] using hjs
      exact (hdwj s this).2
     rw [hw] at hw2
     injection hw2 with e2
     subst e2
     exact h1
    ·rw [if_neg e]
     have hne:i ≠ j:=by
      rintro rfl
      simp only [dstAt,ho,Option.bind_some,hd] at hjs
      injection hjs with e3
      exact e e3.symm
     rw [getD_set_ne false hne] at hl
     exact hmono j _ w w' hj h3 (h.done j s hj hl hjs)
   ·intro j hj hl hjn
    have hne:i ≠ j:=by
     rintro rfl
     simp only [dstAt,ho,Option.bind_some,hd] at hjn
     cases hjn
    rw [getD_set_ne false hne] at hl
    exact hmono j _ w w' hj h3 (h.stored j hj hl hjn)
theorem CInvV.fin (hB:concWB l n N = true) (hN:a0.tmps.size = N) {listed:Array Bool} {a:Act} {w:World} (h:CInvV l n a0 φ J listed a w) (hall:∀ i,i < n → listed.getD i false = true) :
  ∃ x:Nat → Value,(∀ i,i < n → φ i (x i) w ∨ (dstAt l i = none ∧ φ i undef w)) ∧ (∀ i s,dstAt l i = some s → a.tmps.getD s undef = x i) ∧ a = putAll (l.take n) 0 x a0:=by
 refine ⟨fun i => a.tmps.getD ((dstAt l i).getD 0) undef,fun i hi => ?_,fun i s hs => (by show _ = a.tmps.getD ((dstAt l i).getD 0) undef;rw [hs];rfl),?_⟩
 ·cases hds:dstAt l i with
  | none => exact Or.inr ⟨rfl,h.stored i hi (hall i hi) hds⟩
  | some d => exact Or.inl (by show φ i (a.tmps.getD ((dstAt l i).getD 0) undef) w;rw [hds];exact h.done i d hi (hall i hi) hds)
 ·have hs:=putAll_size (l.take n) 0 (fun i => a.tmps.getD ((dstAt l i).getD 0) undef) a0
  have htm:a.tmps = (putAll (l.take n) 0 (fun i => a.tmps.getD ((dstAt l i).getD 0) undef) a0).tmps:=by
   apply Array.ext
   ·rw [hs.1,h.size]
   ·intro s h1 h2
    have hdt:∀ j,dstAt (l.take n) j = some s → j < n ∧ dstAt l j = some s:=fun j hj => by
     unfold dstAt at hj ⊢
     rw [List.getElem?_take] at hj
     split at hj
     ·exact ⟨‹_›,hj⟩
     ·cases hj
    have:=putAll_get (l.take n) 0 (fun i => a.tmps.getD ((dstAt l i).getD 0) undef) a0 s (a.tmps.getD s undef) (by rw [← h.size];exact h1)
     (fun j hj => by rw [Nat.zero_add,(hdt j hj).2];rfl)
     (fun hno => by
      cases hw:writer l n s with
      | none => exact (h.other s hw).symm
      | some j =>
       obtain ⟨hj,hjd⟩:=writer_dst hw
       refine absurd ?_ (hno j)
       unfold dstAt at hjd ⊢
       rw [List.getElem?_take,if_pos hj]
       exact hjd)
    have e1:a.tmps.getD s undef = a.tmps[s]:=by simp [h1]
    rw [e1] at this
    rw [← this]
    generalize putAll (l.take n) 0 _ a0 = p at h2
    simp [h2]
  obtain ⟨tm,df⟩:=a
  have e2:=h.defers
  simp only at htm e2
  generalize hp:putAll (l.take n) 0 (fun i => tm.getD ((dstAt l i).getD 0) undef) a0 = p at htm hs ⊢
  obtain ⟨tm',df'⟩:=p
  simp only at htm hs
  rw [htm,e2,hs.2]
theorem wpAny_concV (hB:concWB l n N = true) (hN:a0.tmps.size = N)
  (hmono:∀ i x w w',i < n → E w w' → φ i x w → φ i x w') (hnone:∀ i x w,i < n → dstAt l i = none → φ i x w → φ i undef w)
  (hstep:∀ i o,i < n → l[i]? = some o → ∀ (a:Act) (w:World) (L:Array Bool),i ∈ Region.ready .any l.toArray L → a.tmps.size = a0.tmps.size → L.size = l.length → J L a w → (∀ s ∈ tmpsOf o,known l n a0.tmps φ s (a.tmps.getD s undef) w) → OpV P o a.eval w fun v w' => φ i v w' ∧ J (L.setIfInBounds i true) (a.put o.dst v) w' ∧ E w w')
  (hend:∀ (x:Nat → Value) (w':World) (L:Array Bool),(∀ i,i < n → L.getD i false = true) → J L (putAll (l.take n) 0 x a0) w' → (∀ i s,dstAt l i = some s → (putAll (l.take n) 0 x a0).tmps.getD s undef = x i) → (∀ i,i < n → φ i (x i) w' ∨ (dstAt l i = none ∧ φ i undef w')) → wpList P l.toArray Q (l.drop n) (putAll (l.take n) 0 x a0) w') :
  ∀ (c:Nat) (listed:Array Bool) (a:Act) (w:World),c ≤ n → CInvV l n a0 φ J listed a w → ((List.range n).countP fun j => !listed.getD j true) = c → wpAny P .any l.toArray Q (c + (l.length - n)) listed a w:=by
 have hB':=hB
 simp only [concWB,Bool.and_eq_true,decide_eq_true_eq] at hB'
 obtain ⟨⟨⟨⟨hn,hsink⟩,hchain⟩,hseq⟩,_⟩:=hB'
 intro c
 induction c with
 | zero =>
  intro listed a w hcn h hc
  have hall:∀ i,i < n → listed.getD i false = true:=fun i hi => by
   have:=List.countP_eq_zero.1 hc i (List.mem_range.2 hi)
   have hsz:=h.head.size
   have his:i < listed.size:=by rw [hsz];simp;omega
   simp [his] at this ⊢
   exact this
  obtain ⟨x,hx,hg,rfl⟩:=h.fin hB hN hall
  have he:=allTrue_eq (n:=n) (m:=l.length) (by rw [h.head.size];simp) hall (fun t h1 h2 => h.head.tail t h1 (by simpa using h2))
  have:=wpAny_of_seq (P:=P) (ops:=l.toArray) (md:=.any) (Q':=Q) (l.drop n) n listed (putAll (l.take n) 0 x a0) w (fun j => by simp [List.getElem?_drop]) (by rw [List.length_drop,he];exact hseq) (hend x w listed hall h.world hg hx)
  rw [List.length_drop] at this
  rw [Nat.zero_add]
  exact this
 | succ c ih =>
  intro listed a w hcn h hc
  have hex:∃ i,i < n ∧ listed.getD i true = false:=by
   have:0 < (List.range n).countP fun j => !listed.getD j true:=by omega
   obtain ⟨i,hi,hl⟩:=List.countP_pos_iff.1 this
   exact ⟨i,List.mem_range.1 hi,by simpa using hl⟩
  have hne:Region.ready .any l.toArray listed ≠ []:=by
   have:∀ m i,i < n → i ≤ m → listed.getD i true = false → ∃ k,k ∈ Region.ready .any l.toArray listed:=by
    intro m
    induction m with
    | zero =>
     intro i hi hm hl
     obtain rfl:i = 0:=by omega
     obtain ⟨o,ho,_,_,haft,_⟩:=concWB_at hB hi
     refine ⟨0,mem_ready.2 ⟨hl,o,by simpa using ho,fun e he hb => ?_⟩⟩
     have:=haft e he hb
     omega
    | succ m ihm =>
     intro i hi hm hl
     obtain ⟨o,ho,_,_,haft,_⟩:=concWB_at hB hi
     by_cases hd:∀ e ∈ o.after,Region.binds .any e = true → listed.getD e.on false = true
     ·exact ⟨i,mem_ready.2 ⟨hl,o,by simpa using ho,hd⟩⟩
     ·obtain ⟨e,hd⟩:=Classical.not_forall.1 hd
      obtain ⟨he,hd⟩:=Classical.not_forall.1 hd
      obtain ⟨hb,hd⟩:=Classical.not_forall.1 hd
      have hlt:=haft e he hb
      have hes:e.on < listed.size:=by rw [h.head.size];simp;omega
      exact ihm e.on (by omega) (by omega) (getD_in hes (by simpa using hd))
   obtain ⟨i,hi,hl⟩:=hex
   obtain ⟨k,hk⟩:=this i i hi (Nat.le_refl _) hl
   intro e
   rw [e] at hk
   cases hk
  rw [show c + 1 + (l.length - n) = (c + (l.length - n)) + 1 from by omega]
  refine ⟨fun e => absurd e hne,fun i hi => ?_⟩
  obtain ⟨k,hk,hkl⟩:=hex
  have hin:i < n:=by
   rcases Nat.lt_or_ge i n with h' | h'
   ·exact h'
   ·exact absurd hi (tail_waits hsink hchain (by simpa using hn) h.head (n - k) k rfl hk hkl i h')
  refine wpOp_mono (fun a' w' h' => ih _ _ _ (by omega) h' ?_) (CInvV.step hB hN hmono hnone hstep h hi hin)
  have hl:=(mem_ready.1 hi).1
  have:=countP_set hin hl
  omega
theorem wp_region_concV {id:Nat} {w:World} (n N:Nat) (φ:Nat → Value → World → Prop) (J:Array Bool → Act → World → Prop) (E:World → World → Prop) (hm:P.follows .mixedOrders = true) (hB:concWB l n N = true) (hN:a0.tmps.size = N)
  (hJ:J (Array.replicate l.toArray.size false) a0 w.drew) (hmono:∀ i x w w',i < n → E w w' → φ i x w → φ i x w') (hnone:∀ i x w,i < n → dstAt l i = none → φ i x w → φ i undef w)
  (hstep:∀ i o,i < n → l[i]? = some o → ∀ (a:Act) (w:World) (L:Array Bool),i ∈ Region.ready .any l.toArray L → a.tmps.size = a0.tmps.size → L.size = l.length → J L a w → (∀ s ∈ tmpsOf o,known l n a0.tmps φ s (a.tmps.getD s undef) w) → OpV P o a.eval w fun v w' => φ i v w' ∧ J (L.setIfInBounds i true) (a.put o.dst v) w' ∧ E w w')
  (hend:∀ (x:Nat → Value) (w':World) (L:Array Bool),(∀ i,i < n → L.getD i false = true) → J L (putAll (l.take n) 0 x a0) w' → (∀ i s,dstAt l i = some s → (putAll (l.take n) 0 x a0).tmps.getD s undef = x i) → (∀ i,i < n → φ i (x i) w' ∨ (dstAt l i = none ∧ φ i undef w')) → wpList P l.toArray Q (l.drop n) (putAll (l.take n) 0 x a0) w') :
  (Code.region id l.toArray true).wp P Q a0 w:=by
 refine wp_region_any hm ?_
 have hn:n < l.length:=by
  simp only [concWB,Bool.and_eq_true,decide_eq_true_eq] at hB
  exact hB.1.1.1.1
 have h0:CInvV l n a0 φ J (Array.replicate l.toArray.size false) a0 w.drew:=by
  refine ⟨⟨by simp,fun j oj _ hl => (by rw [getD_replicate_false] at hl;cases hl),fun t _ ht => getD_in (by simpa using ht) (getD_replicate_false _ _)⟩,hJ,rfl,rfl,fun _ _ => rfl,fun i s _ hl => (by rw [getD_replicate_false] at hl;cases hl),fun i _ hl => by rw [getD_replicate_false] at hl;cases hl⟩
 have hc:((List.range n).countP fun j => !(Array.replicate l.toArray.size false).getD j true) = n:=by
  have:((List.range n).countP fun j => !(Array.replicate l.toArray.size false).getD j true) = (List.range n).length:=by
   rw [List.countP_eq_length]
   intro j hj
   have:=List.mem_range.1 hj
   have h2:j < l.length:=by omega
   simp [h2]
  rw [this,List.length_range]
 have:=wpAny_concV (Q:=Q) hB hN hmono hnone hstep hend n _ _ _ (Nat.le_refl _) h0 hc
 rw [show n + (l.length - n) = l.toArray.size from by simp;omega] at this
 exact this
end
open Go.RowKit
structure RowT where
 i:Nat
 s:Nat
 v:Value
 B:Nat
 T:TypeId
 k:Nat
 n:Nat
 xs:List Value
 m:Nat
 ys:List Value
def apart (u v:Value):Prop:=u.ownBlock = none ∨ v.ownBlock = none ∨ u.ownBlock ≠ v.ownBlock
theorem apart.symm {u v:Value} (h:apart u v):apart v u:=by
 rcases h with h | h | h
 ·exact Or.inr (Or.inl h)
 ·exact Or.inl h
 ·exact Or.inr (Or.inr (fun e => h e.symm))
theorem apart.ne {u v:Value} (h:apart u v):v.ownBlock = none ∨ v.ownBlock ≠ u.ownBlock:=by
 rcases h with h | h | h
 ·rw [h]
  cases hv:v.ownBlock with
  | none => exact Or.inl rfl
  | some g => exact Or.inr (by simp)
 ·exact Or.inl h
 ·exact Or.inr (fun e => h e.symm)
def RowT.val (t:RowT) (L:Array Bool) (a:Act):Value:=if L.getD t.i false = true then a.tmps.getD t.s undef else t.v
def RowT.own (t:RowT) (L:Array Bool) (a:Act) (w:World):Prop:=if L.getD t.i false = true then w.ownsRow t.B t.T t.k (a.tmps.getD t.s undef) t.m t.ys else w.ownsRow t.B t.T t.k t.v t.n t.xs
theorem RowT.own_val {t:RowT} {L:Array Bool} {a:Act} {w:World} (h:t.own L a w):∃ n xs,w.ownsRow t.B t.T t.k (t.val L a) n xs:=by
 unfold RowT.own at h
 unfold RowT.val
 split at h
 ·rename_i e;rw [if_pos e];exact ⟨_,_,h⟩
 ·rename_i e;rw [if_neg e];exact ⟨_,_,h⟩
theorem RowT.own_kept {t:RowT} {L:Array Bool} {a:Act} {w w':World} (h:t.own L a w) {row:Option Nat} (hg:w.grownBy w' row) (hne:(t.val L a).ownBlock = none ∨ (t.val L a).ownBlock ≠ row):t.own L a w':=by
 unfold RowT.own at h ⊢
 unfold RowT.val at hne
 split at h
 ·rename_i e;rw [if_pos e] at hne ⊢;exact World.ownsRow.kept h hg hne
 ·rename_i e;rw [if_neg e] at hne ⊢;exact World.ownsRow.kept h hg hne
structure RowsJ (W0:World) (ts:List RowT) (L:Array Bool) (a:Act) (w:World):Prop where
 size:W0.heap.size ≤ w.heap.size
 os:w.os = W0.os
 tape:w.tape = W0.tape
 output:w.output = W0.output
 keep:∀ b,b < W0.heap.size → (∀ t ∈ ts,t.v.ownBlock ≠ some b) → w.heap[b]? = W0.heap[b]?
 own:∀ t ∈ ts,t.own L a w
 apart:ts.Pairwise fun t u => apart (t.val L a) (u.val L a)
 lies:∀ t ∈ ts,(t.val L a).ownBlock = t.v.ownBlock ∨ ∃ g,(t.val L a).ownBlock = some g ∧ W0.heap.size ≤ g
def RowsE (W0:World) (w w':World):Prop:=w.heap.size ≤ w'.heap.size ∧ ∀ b,W0.heap.size ≤ b → b < w.heap.size → w'.heap[b]? = w.heap[b]?
theorem RowsE.of {W0 w w':World} (h:Below w.heap.size w w'):RowsE W0 w w':=⟨h.size,fun b _ hb => h.block b hb⟩
theorem getD_set_self {L:Array Bool} {i:Nat} (hi:i < L.size):(L.setIfInBounds i true).getD i false = true:=by simp [hi]
section
variable {W0 w w':World} {ts:List RowT} {L:Array Bool} {a:Act}
theorem RowsJ.start (h1:∀ t ∈ ts,W0.ownsRow t.B t.T t.k t.v t.n t.xs) (h2:ts.Pairwise fun t u => Proofs.YtcncifmanodabaaGreatDoor.apart t.v u.v) (m:Nat) (a:Act):RowsJ W0 ts (Array.replicate m false) a W0.drew:=by
 have hv:∀ t:RowT,t.val (Array.replicate m false) a = t.v:=fun t => by unfold RowT.val;rw [getD_replicate_false];rfl
 refine ⟨Nat.le_refl _,rfl,rfl,rfl,fun b _ _ => rfl,fun t ht => ?_,?_,fun t ht => Or.inl (by rw [hv])⟩
 ·unfold RowT.own
  rw [getD_replicate_false]
  exact h1 t ht
 ·refine h2.imp ?_
  intro t u h
  rw [hv,hv]
  exact h
theorem RowsJ.step (h:RowsJ W0 ts L a w) (hb:Below w.heap.size w w') {i d:Nat} (hi:∀ t ∈ ts,t.i ≠ i ∧ t.s ≠ d) (v:Value):RowsJ W0 ts (L.setIfInBounds i true) (a.put (some d) v) w':=by
 have hL:∀ t ∈ ts,(L.setIfInBounds i true).getD t.i false = L.getD t.i false:=fun t ht => getD_set_ne false (Ne.symm (hi t ht).1)
 have hT:∀ t ∈ ts,(a.put (some d) v).tmps.getD t.s undef = a.tmps.getD t.s undef:=fun t ht => by
  simp only [Act.put,Array.getD_eq_getD_getElem?,Array.getElem?_setIfInBounds]
  simp [Ne.symm (hi t ht).2]
 have hV:∀ t ∈ ts,t.val (L.setIfInBounds i true) (a.put (some d) v) = t.val L a:=fun t ht => by unfold RowT.val;rw [hL t ht,hT t ht]
 have hO:∀ t ∈ ts,t.own L a w' → t.own (L.setIfInBounds i true) (a.put (some d) v) w':=fun t ht h => by unfold RowT.own at h ⊢;rw [hL t ht,hT t ht];exact h
 have hg:w.grownBy w' none:=⟨hb.os,hb.tape,hb.output,hb.size,fun k hk _ => hb.block k hk⟩
 refine ⟨Nat.le_trans h.size hb.size,hb.os.trans h.os,hb.tape.trans h.tape,hb.output.trans h.output,fun b hb1 hb2 => (hb.block b (Nat.lt_of_lt_of_le hb1 h.size)).trans (h.keep b hb1 hb2),fun t ht => hO t ht (RowT.own_kept (h.own t ht) hg ?_),?_,fun t ht => by rw [hV t ht];exact h.lies t ht⟩
 ·cases hv:(t.val L a).ownBlock with
  | none => exact Or.inl rfl
  | some g => exact Or.inr (by simp)
 ·refine h.apart.imp_of_mem ?_
  intro t u ht hu hap
  rw [hV t ht,hV u hu]
  exact hap
theorem RowsJ.put {d:Nat} (h:RowsJ W0 ts L a w) {t:RowT} (ht:t ∈ ts) (hd:d = t.s) (hlist:L.getD t.i false = false) (hsz:t.i < L.size) (hs:t.s < a.tmps.size)
  (hother:∀ u ∈ ts,u ≠ t → u.i ≠ t.i ∧ u.s ≠ t.s) (v:Value) (ho:w'.ownsRow t.B t.T t.k v t.m t.ys) (hg:w.grownBy w' t.v.ownBlock) (hat:v.ownBlock = t.v.ownBlock ∨ v.ownBlock = some w.heap.size)
  (hnd:ts.Nodup) (hlt:∀ g,t.v.ownBlock = some g → g < W0.heap.size):RowsJ W0 ts (L.setIfInBounds t.i true) (a.put (some d) v) w' ∧ RowsE W0 w w':=by
 subst hd
 have hL:∀ u ∈ ts,u ≠ t → (L.setIfInBounds t.i true).getD u.i false = L.getD u.i false:=fun u hu hne => getD_set_ne false (Ne.symm (hother u hu hne).1)
 have hT:∀ u ∈ ts,u ≠ t → (a.put (some t.s) v).tmps.getD u.s undef = a.tmps.getD u.s undef:=fun u hu hne => by
  simp only [Act.put,Array.getD_eq_getD_getElem?,Array.getElem?_setIfInBounds]
  simp [Ne.symm (hother u hu hne).2]
 have hV:∀ u ∈ ts,u ≠ t → u.val (L.setIfInBounds t.i true) (a.put (some t.s) v) = u.val L a:=fun u hu hne => by unfold RowT.val;rw [hL u hu hne,hT u hu hne]
 have hVt0:t.val L a = t.v:=by unfold RowT.val;rw [hlist];rfl
 have hLt:(L.setIfInBounds t.i true).getD t.i false = true:=getD_set_self hsz
 have hTt:(a.put (some t.s) v).tmps.getD t.s undef = v:=by rw [getD_put hs,if_pos rfl]
 have hVt:t.val (L.setIfInBounds t.i true) (a.put (some t.s) v) = v:=by unfold RowT.val;rw [hLt,hTt];rfl
 have hap:∀ u ∈ ts,u ≠ t → Proofs.YtcncifmanodabaaGreatDoor.apart (u.val L a) t.v:=by
  intro u hu hne
  have key:∀ (l:List RowT),(l.Pairwise fun t u => Proofs.YtcncifmanodabaaGreatDoor.apart (t.val L a) (u.val L a)) → u ∈ l → t ∈ l → Proofs.YtcncifmanodabaaGreatDoor.apart (u.val L a) (t.val L a):=by
   intro l hp
   induction hp with
   | nil => intro h;cases h
   | cons hx _ ih =>
    intro hu ht
    rcases List.mem_cons.1 hu with hu | hu
    ·rcases List.mem_cons.1 ht with ht | ht
     ·exact absurd (hu.trans ht.symm) hne
     ·rw [hu];exact hx _ ht
    ·rcases List.mem_cons.1 ht with ht | ht
     ·rw [ht];exact (hx _ hu).symm
     ·exact ih hu ht
  have:=key ts h.apart hu ht
  rwa [hVt0] at this
 refine ⟨⟨Nat.le_trans h.size hg.size,hg.os.trans h.os,hg.tape.trans h.tape,hg.output.trans h.output,fun b hb1 hb2 => (hg.block b (Nat.lt_of_lt_of_le hb1 h.size) (fun e => hb2 t ht e.symm)).trans (h.keep b hb1 hb2),fun u hu => ?_,?_,fun u hu => ?_⟩,⟨hg.size,fun b hb1 hb2 => hg.block b hb2 (fun e => by have:=hlt b e.symm;omega)⟩⟩
 ·by_cases hne:u = t
  ·subst hne
   unfold RowT.own
   rw [hLt,hTt]
   exact ho
  ·have:=RowT.own_kept (h.own u hu) hg (hap u hu hne).symm.ne
   unfold RowT.own at this ⊢
   rw [hL u hu hne,hT u hu hne]
   exact this
 ·have hval:∀ u ∈ ts,u ≠ t → Proofs.YtcncifmanodabaaGreatDoor.apart (u.val (L.setIfInBounds t.i true) (a.put (some t.s) v)) (t.val (L.setIfInBounds t.i true) (a.put (some t.s) v)):=by
   intro u hu hne
   rw [hVt,hV u hu hne]
   rcases hat with hat | hat
   ·rcases hap u hu hne with h1 | h1 | h1
    ·exact Or.inl h1
    ·exact Or.inr (Or.inl (hat.trans h1))
    ·exact Or.inr (Or.inr (by rw [hat];exact h1))
   ·right;right
    rw [hat]
    intro c
    obtain ⟨n,xs,hn⟩:=RowT.own_val (h.own u hu)
    have:=(World.ownsRow.lt hn _ c).2
    omega
  have key:∀ (l:List RowT),(∀ u ∈ l,u ∈ ts) → l.Nodup → (l.Pairwise fun t u => Proofs.YtcncifmanodabaaGreatDoor.apart (t.val L a) (u.val L a)) → l.Pairwise fun x y => Proofs.YtcncifmanodabaaGreatDoor.apart (x.val (L.setIfInBounds t.i true) (a.put (some t.s) v)) (y.val (L.setIfInBounds t.i true) (a.put (some t.s) v)):=by
   intro l hl hnd hp
   induction hp with
   | nil => exact List.Pairwise.nil
   | @cons x l hx _ ih =>
    obtain ⟨hxl,hnd'⟩:=List.nodup_cons.1 hnd
    refine List.Pairwise.cons (fun y hy => ?_) (ih (fun u hu => hl u (List.mem_cons_of_mem _ hu)) hnd')
    have hxm:=hl x List.mem_cons_self
    have hym:=hl y (List.mem_cons_of_mem _ hy)
    by_cases e1:x = t
    ·have e2:y ≠ t:=fun e => hxl (by rw [e1,← e];exact hy)
     rw [e1]
     exact (hval y hym e2).symm
    ·by_cases e2:y = t
     ·rw [e2];exact hval x hxm e1
     ·rw [hV x hxm e1,hV y hym e2];exact hx y hy
  exact key ts (fun u hu => hu) hnd h.apart
 ·by_cases hne:u = t
  ·subst hne
   rw [hVt]
   rcases hat with hat | hat
   ·exact Or.inl hat
   ·exact Or.inr ⟨_,hat,h.size⟩
  ·rw [hV u hu hne];exact h.lies u hu
theorem RowsJ.apps {P:Program} {o:Oper} (h:RowsJ W0 ts L a w) {t:RowT} (ht:t ∈ ts) (hd:o.dst = some t.s) (hlist:L.getD t.i false = false) (hsz:t.i < L.size) (hs:t.s < a.tmps.size)
  (hother:∀ u ∈ ts,u ≠ t → u.i ≠ t.i ∧ u.s ≠ t.s) (hnd:ts.Nodup) (hlt:∀ g,t.v.ownBlock = some g → g < W0.heap.size)
  (x y:Operand) (ty:TypeId) (hop:o.op = .call { callee:=.builtin .append,args:=#[x,y],argTypes:=#[ty,ty] })
  (i:TypeInfo) (z:Value) (bytes:Nat) (hty:P.underlying ty = some (.slice t.T)) (hi:P.info? t.T = some i) (hz:i.zero = some z)
  (hsize:i.size = t.k) (hby:i.bytes = bytes) (hzs:z.cells.size = t.k) (hk:0 < t.k) (hx:a.eval x = t.v)
  (ad:Addr) (m c:Nat) (news:List Value) (hy:a.eval y = .slice (some ad) m c) (hl:news.length = m * t.k) (hnews:∀ j u,news[j]? = some u → w.cell? (ad.add j) = some u) (h1:∀ u ∈ news,u.oneCell' = true)
  (hm:t.m = t.n + m) (hys:t.ys = t.xs ++ news) (hn:t.n + m ≤ 4294967296) (hbytes:bytes ≤ 4096) (hB:t.B ≤ W0.heap.size) :
  OpV P o a.eval w fun v w' => RowsJ W0 ts (L.setIfInBounds t.i true) (a.put o.dst v) w' ∧ RowsE W0 w w':=by
 have hown:w.ownsRow t.B t.T t.k t.v t.n t.xs:=by
  have:=h.own t ht
  unfold RowT.own at this
  rw [hlist] at this
  exact this
 obtain ⟨v',w',hrun,o1,g1,-,at1⟩:=run_append_own_at (P:=P) w t.B ty o.type t.T i z t.k bytes hty hi hz hsize hby hzs hk t.v t.n t.xs hown ad m c news hl hnews h1 (by simp only [maxLen];omega) (by
   have:(t.n + m) * bytes ≤ 4294967296 * 4096:=Nat.mul_le_mul hn hbytes
   omega) (Nat.le_trans hB h.size)
 refine OpV.append x y ty _ _ v' hop hx hy hrun ?_
 rw [hd]
 exact h.put ht rfl hlist hsz hs hother v' (by rw [hm,hys];exact o1) g1 at1 hnd hlt
theorem RowsJ.app {P:Program} {o:Oper} (h:RowsJ W0 ts L a w) {t:RowT} (ht:t ∈ ts) (hd:o.dst = some t.s) (hlist:L.getD t.i false = false) (hsz:t.i < L.size) (hs:t.s < a.tmps.size)
  (hother:∀ u ∈ ts,u ≠ t → u.i ≠ t.i ∧ u.s ≠ t.s) (hnd:ts.Nodup) (hlt:∀ g,t.v.ownBlock = some g → g < W0.heap.size)
  (x y:Operand) (ty:TypeId) (hop:o.op = .call { callee:=.builtin .append,args:=#[x,y],argTypes:=#[ty,ty] })
  (i:TypeInfo) (z:Value) (bytes:Nat) (hty:P.underlying ty = some (.slice t.T)) (hi:P.info? t.T = some i) (hz:i.zero = some z)
  (hsize:i.size = t.k) (hby:i.bytes = bytes) (hzs:z.cells.size = t.k) (hk:0 < t.k) (hx:a.eval x = t.v)
  (b:Nat) (cs:Array Value) (T':TypeId) (hy:a.eval y = .slice (some ⟨b,0,none⟩) 1 1) (hb:w.heap[b]? = some (.cells cs T' (0,0))) (hcs:cs.size = t.k) (h1:∀ u ∈ cs.toList,u.oneCell' = true)
  (hm:t.m = t.n + 1) (hys:t.ys = t.xs ++ cs.toList) (hn:t.n ≤ 4294967296) (hbytes:bytes ≤ 4096) (hB:t.B ≤ W0.heap.size) :
  OpV P o a.eval w fun v w' => RowsJ W0 ts (L.setIfInBounds t.i true) (a.put o.dst v) w' ∧ RowsE W0 w w':=by
 have hown:w.ownsRow t.B t.T t.k t.v t.n t.xs:=by
  have:=h.own t ht
  unfold RowT.own at this
  rw [hlist] at this
  exact this
 obtain ⟨v',w',hrun,o1,g1,-,at1⟩:=run_append_own_at (P:=P) w t.B ty o.type t.T i z t.k bytes hty hi hz hsize hby hzs hk t.v t.n t.xs hown ⟨b,0,none⟩ 1 1 cs.toList (by simpa using hcs) (fun j u hu => by
   rw [Addr.add_lit]
   simp only [World.cell?,hb]
   simp at hu ⊢
   exact hu) h1 (by simp only [maxLen];omega) (by
   have:(t.n + 1) * bytes ≤ 4294967297 * 4096:=Nat.mul_le_mul (by omega) hbytes
   omega) (Nat.le_trans hB h.size)
 refine OpV.append x y ty _ _ v' hop hx hy hrun ?_
 rw [hd]
 exact h.put ht rfl hlist hsz hs hother v' (by rw [hm,hys];exact o1) g1 at1 hnd hlt
end
theorem rows_ne {ts:List RowT} {li ls:List Nat} (hI:ts.map RowT.i = li) (hS:ts.map RowT.s = ls) {i d:Nat} (hi:i ∉ li) (hd:d ∉ ls):∀ t ∈ ts,t.i ≠ i ∧ t.s ≠ d:=fun t ht =>
 ⟨fun e => hi (by rw [← hI,← e];exact List.mem_map_of_mem ht),fun e => hd (by rw [← hS,← e];exact List.mem_map_of_mem ht)⟩
theorem nodup_map_ne {α:Type} {f:α → Nat} {l:List α} (h:(l.map f).Nodup) {x y:α} (hx:x ∈ l) (hy:y ∈ l) (hne:x ≠ y):f x ≠ f y:=by
 induction l with
 | nil => cases hx
 | cons a l ih =>
  rw [List.map_cons,List.nodup_cons] at h
  rcases List.mem_cons.1 hx with e | hx'
  ·rcases List.mem_cons.1 hy with e' | hy'
   ·exact absurd (e.trans e'.symm) hne
   ·intro c;apply h.1;rw [← e,c];exact List.mem_map_of_mem hy'
  ·rcases List.mem_cons.1 hy with e' | hy'
   ·intro c;apply h.1;rw [← e',← c];exact List.mem_map_of_mem hx'
   ·exact ih h.2 hx' hy'
theorem nodup_of_map {α:Type} {f:α → Nat} {l:List α} (h:(l.map f).Nodup):l.Nodup:=by
 induction l with
 | nil => exact List.nodup_nil
 | cons a l ih =>
  rw [List.map_cons,List.nodup_cons] at h
  exact List.nodup_cons.2 ⟨fun c => h.1 (List.mem_map_of_mem c),ih h.2⟩
theorem rows_other {ts:List RowT} {li ls:List Nat} (hI:ts.map RowT.i = li) (hS:ts.map RowT.s = ls) (h1:li.Nodup) (h2:ls.Nodup) {t:RowT} (ht:t ∈ ts):∀ u ∈ ts,u ≠ t → u.i ≠ t.i ∧ u.s ≠ t.s:=fun u hu hne =>
 ⟨nodup_map_ne (by rw [hI];exact h1) hu ht hne,nodup_map_ne (by rw [hS];exact h2) hu ht hne⟩
theorem slotv {a:Act} {s:Nat} {v:Value} (h:a.tmps.getD s undef = v):a.tmps[s]?.getD undef = v:=by rw [← Array.getD_eq_getD_getElem?];exact h
def TmpS (S:Nat) (v:Value) (cs:Array Value) (T:TypeId) (w:World):Prop:=∃ b,v = .slice (some ⟨b,0,none⟩) 1 1 ∧ S ≤ b ∧ w.heap[b]? = some (.cells cs T (0,0))
theorem TmpS.mono {W0 w w':World} {v:Value} {cs:Array Value} {T:TypeId} (e:RowsE W0 w w') (h:TmpS W0.heap.size v cs T w):TmpS W0.heap.size v cs T w':=by
 obtain ⟨b,h1,h2,h3⟩:=h
 exact ⟨b,h1,h2,(e.2 b h2 (lt_of_heap h3)).trans h3⟩
theorem RowsJ.inn {W0 w:World} {ts:List RowT} {L:Array Bool} {a:Act} {H:Frz} (h:RowsJ W0 ts L a w) (hH:H.In W0) (hn:∀ t ∈ ts,∀ g,t.v.ownBlock = some g → H g = none):H.In w:=fun b o e => by
 refine (h.keep b (hH.lt e) (fun t ht c => ?_)).trans (hH b o e)
 rw [hn t ht b c] at e
 cases e
theorem RowsJ.below {W0 w:World} {ts:List RowT} {L:Array Bool} {a:Act} {B:Nat} (h:RowsJ W0 ts L a w) (hB:B ≤ W0.heap.size) (hn:∀ t ∈ ts,∀ g,t.v.ownBlock = some g → B ≤ g):Below B W0 w :=
 ⟨h.os,h.tape,h.output,h.size,fun b hb => h.keep b (by omega) (fun t ht c => by have:=hn t ht b c;omega)⟩
theorem ready_not {l:Array Oper} {L:Array Bool} {i:Nat} (h:i ∈ Region.ready .any l L) (hs:i < L.size):L.getD i false = false:=by
 have:=(mem_ready.1 h).1
 simp [hs] at this ⊢
 exact this
end Go.Proofs.YtcncifmanodabaaGreatDoor
