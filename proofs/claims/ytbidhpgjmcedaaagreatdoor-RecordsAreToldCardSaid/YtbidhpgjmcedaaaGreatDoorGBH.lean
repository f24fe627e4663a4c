/- Texts of this claim, put together: RightTcP, RightTc, RightRul, Told, TouchesOnlyJoin. -/
import Derived.Test.YtbidhpgjmcedaaaGreatDoorGBG
import Derived.Test.YtbidhpgjmcedaaaGreatDoorGBC
import Derived.Test.YtbidhpgjmcedaaaGreatDoorGAE
import Derived.Test.YtbidhpgjmcedaaaGreatDoorGAW
import Derived.Laws.Rows
import Derived.Test.YtbidhpgjmcedaaaGreatDoorGBE
import Derived.Test.YtbidhpgjmcedaaaGreatDoorGAX
namespace Go.Proofs.YtbidhpgjmcedaaaGreatDoor
set_option linter.unusedVariables false
open Go.RowKit
def RightTs (ts : List TchD) : Prop:=fstErr (tch1 okT ts) ts.length = 0
theorem tchE_more {ok : ByteArray → Bool} {t : TchD} {b : Int} (h : tchE ok t 0 = 0) (hb : b < t.no) : tchE ok t b = 0:=by
 unfold tchE at h ⊢
 split at h
 ·cases h
 rename_i h1
 rw [if_neg h1]
 split at h
 ·cases h
 rename_i h2
 rw [if_neg h2]
 split at h
 ·cases h
 rw [if_neg (by omega)]
 exact h
theorem tchs_one {ok : ByteArray → Bool} {t : TchD} (h : tchsE ok [t] = 0) : tchE ok t 0 = 0:=by
 unfold tchsE at h
 rw [if_neg (by simp)] at h
 exact fstErr_zero.1 h 0 (by simp)
theorem prevNo_app {ts : List TchD} {t : TchD} {i : Nat} (h : i ≤ ts.length) : prevNo (ts ++ [t]) i = prevNo ts i:=by
 cases i with
 | zero => rfl
 | succ i =>
  unfold prevNo
  simp only
  rw [List.getElem?_append_left (by omega)]
theorem RightTs.nil : RightTs []:=rfl
theorem RightTs.snoc {ts : List TchD} {t : TchD} (h : RightTs ts) (h1 : tchE okT t 0 = 0) (h2 : prevNo ts ts.length < t.no) : RightTs (ts ++ [t]):=by
 unfold RightTs at h ⊢
 have h0:=fstErr_zero.1 h
 refine fstErr_zero.2 fun i hi => ?_
 by_cases e : i < ts.length
 ·have:=h0 i e
  unfold tch1 at this ⊢
  rw [List.getElem?_append_left e,prevNo_app (by omega)]
  exact this
 ·have e2 : i = ts.length:=by simp at hi; omega
  subst e2
  unfold tch1
  rw [List.getElem?_append_right (Nat.le_refl _),Nat.sub_self]
  simp only [List.getElem?_cons_zero]
  rw [prevNo_app (Nat.le_refl _)]
  exact tchE_more h1 h2
theorem RightTs.all {ts : List TchD} (h : RightTs ts) (hl : ts.length ≤ 2000) : tchsE okT ts = 0:=by
 unfold tchsE
 rw [if_neg (by omega)]
 exact h
theorem prev_last {ts : List TchD} (h : 0 < ts.length) : prevNo ts ts.length = (ts[ts.length - 1]'(by omega)).no:=by
 obtain ⟨n,hn⟩ : ∃ n,ts.length = n + 1:=⟨ts.length - 1,by omega⟩
 have e : prevNo ts (n + 1) = (ts[n]'(by omega)).no:=by
  unfold prevNo
  simp only
  rw [List.getElem?_eq_getElem (by omega)]
 have e2 : ts.length - 1 = n:=by omega
 simp only [e2]
 exact (congrArg (prevNo ts) hn).trans e
section
variable {D : Type} {T k : Nat} {f : D → Nat → Value} {w W wr W' : World} {bs K K' : Nat} {H H' : Frz} {v : Value} {ds : List D}
theorem RG.laid (h : RG T k f w bs K H W v ds wr) (L : Lw w bs K' H' W') (g : wr.grownBy W' (some bs)) (ho : ∀ b,b < wr.heap.size → H' b = H b) : RG T k f w bs K' H' W v ds W' :=
 ⟨⟨L,h.1.row.far g h.1.2.2.2.1,(fun q hq => (ho q (h.1.row.lt hq).2).trans (h.1.2.2.1 q hq)),h.1.2.2.2.1,Nat.le_trans h.1.2.2.2.2 g.size⟩,vm_then h.2 g⟩
end
open Go.RowKit
abbrev TcM:=RG (D:=TchD) 53 5 fTch
theorem infoTch9 : (Tryz.prog.info? 53).map (fun i => (i.zero,i.size,i.bytes)) = some (some (.agg #[.int .i64 0,.int .i64 0,.string ⟨#[]⟩,.slice none 0 0,.slice none 0 0]),5,80):=by kernel_rfl
structure TcsOk (H : Frz) (ts : List TchD) : Prop where
 inn : ∀ t ∈ ts,TcIn H t
 right : RightTs ts
theorem TcsOk.le {H H' : Frz} {ts : List TchD} (h : TcsOk H ts) (hl : H.Le H') : TcsOk H' ts:=⟨fun t ht => (h.inn t ht).le hl,h.right⟩
theorem TcsOk.snoc {H : Frz} {ts : List TchD} {t : TchD} (h : TcsOk H ts) (ht : TcIn H t) (h1 : tchE okT t 0 = 0) (h2 : prevNo ts ts.length < t.no) : TcsOk H (ts ++ [t]) :=
 ⟨fun x hx => by
  rcases List.mem_append.1 hx with hx | hx
  ·exact h.inn x hx
  ·simp at hx; rw [hx]; exact ht,h.right.snoc h1 h2⟩
def φR (bs g : Nat) (v : Value) (n : Int) (j : Nat) (pn : Int) (i : Nat) (x : Value) (W : World) : Prop :=
 match i with
 | 0 => x = v
 | 1 => x = .int .i64 n
 | 2 => x = .int .i64 (j : Int)
 | 3 => x = .pointer (some ⟨g,j * 5,none⟩)
 | 4 => x = .pointer (some ⟨g,j * 5,none⟩)
 | 5 => x = .int .i64 pn
 | 6 => x = .pointer (some ⟨bs,0,none⟩)
 | 7 => ∃ g,x = .slice (some ⟨g,0,none⟩) 3 3 ∧ AtM bs W g (.cells #[.int .i64 1,.int .i64 1,.int .i64 2] 3 (0,0))
 | 8 => ∃ z : Int,x = .int .i64 z ∧ 1 ≤ z ∧ z ≤ 2
 | _ => ∃ z : Int,x = .int .i64 z ∧ pn < z ∧ z ≤ pn + 2
theorem φR_mono {bs g j : Nat} {v : Value} {n pn : Int} (i : Nat) (x : Value) (W W' : World) (_ : i < 10) (he : W.grownBy W' (some bs)) (h : φR bs g v n j pn i x W) : φR bs g v n j pn i x W':=by
 match i with
 | 0 => exact h
 | 1 => exact h
 | 2 => exact h
 | 3 => exact h
 | 4 => exact h
 | 5 => exact h
 | 6 => exact h
 | 7 => obtain ⟨g,h1,h2⟩:=h; exact ⟨g,h1,h2.keep he⟩
 | 8 => exact h
 | n + 9 => exact h
theorem RG.drew {D : Type} {T k : Nat} {f : D → Nat → Value} {w W wr : World} {bs K : Nat} {H : Frz} {v : Value} {ds : List D} (h : RG T k f w bs K H W v ds wr) : RG T k f w bs K H W v ds wr.drew:=h.call ((Below.refl _ _).drew)
theorem RG.same {D : Type} {T k : Nat} {f : D → Nat → Value} {w W wr : World} {bs K n : Nat} {H : Frz} {v : Value} {ds : List D} (h : RG T k f w bs (K + n) H W v ds wr) : RG T k f w bs (K + (n + 1)) H W v ds wr:=h.more (by omega)
theorem prev_bound {ts : List TchD} (h : RightTs ts) : 0 ≤ prevNo ts ts.length ∧ prevNo ts ts.length ≤ 1000000:=by
 rcases Nat.eq_zero_or_pos ts.length with h0 | h0
 ·rw [h0]
  exact ⟨Int.le_refl _,by show (0 : Int) ≤ _; omega⟩
 ·rw [prev_last h0]
  have:=fstErr_zero.1 h (ts.length - 1) (by omega)
  unfold tch1 at this
  rw [List.getElem?_eq_getElem (by omega)] at this
  simp only at this
  unfold tchE at this
  split at this
  ·cases this
  ·rename_i g
   have:=Decidable.not_not.1 g
   omega
theorem row_one {H : Frz} {q : Nat} {d : TchD} (h : H q = some (.cells #[.int .i64 d.no,.int .i64 d.at_,.string d.source,.slice d.ia d.ids.length d.ic,.slice d.fa d.fields.length d.fc] 53 (0,0))) : Rw H (some ⟨q,0,none⟩) 5 fTch [d]:=by
 intro i hi
 have : i = 0:=by simp at hi; omega
 subst this
 refine ⟨q,0,rfl,fun j hj => ?_⟩
 have hc : j = 0 ∨ j = 1 ∨ j = 2 ∨ j = 3 ∨ j = 4:=by omega
 rcases hc with rfl | rfl | rfl | rfl | rfl <;> simp [Frz.cell?,h,fTch]
def RtPost (w : World) (bs K m : Nat) (H : Frz) (W : World) (e : Ending) (W' : World) : Prop:=∃ v ts H',e = .returned v ∧ H.Le H' ∧ (∀ b,b < W.heap.size → H' b = H b) ∧ TcM w bs (K + 600 * m + 20) H' W v ts W' ∧ TcsOk H' ts ∧ ts.length ≤ m
set_option maxHeartbeats 8000000 in
set_option maxRecDepth 100000 in
theorem Lw.rightTouches {w W : World} {bs K : Nat} {H : Frz} (h : Lw w bs K H W) (hK : K ≤ 200000) (hP : PoolIn H) (hN : NamesIn H) (hU : UtfIn H) (hM : MLen H) (m : Nat) (hm : m ≤ 100) :
  Calls Tryz.prog 20 #[.pointer (some ⟨bs,0,none⟩),.int .i64 m] W (RtPost w bs K m H W):=by
 obtain ⟨i0,hi0,hz0,hz1,hz2⟩:=info_parts infoTch9
 have hbs:=h.lt
 have C0 : Hid (TcM w bs K H W (.slice none 0 0) [] W):=RG.start h
 have HP:=Lib.hid hP
 have HN:=Lib.hid hN
 have HU:=Lib.hid hU
 have HM:=Lib.hid hM
 clear h hP hN hU hM
 go_enter Tryz.func20,Tryz.ntmps20
 go_wp2_with fail
 go_loopw [5,10] (fun v t wr => ∃ (i : Nat) (ts : List TchD) (H' : Frz),i ≤ m ∧ t = .int .i64 i ∧ Hid (H.Le H') ∧ Hid (∀ b,b < W.heap.size → H' b = H b) ∧ Hid (TcM w bs (K + 600 * i) H' W v ts wr) ∧ ts.length ≤ i ∧ Hid (TcsOk H' ts)) (fun _ t _ => m - (intOf t).toNat)
 case atStart => exact ⟨0,[],H,by omega,rfl,Frz.Le.refl _,(fun b hb => rfl),C0,by simp,⟨(fun t ht => by cases ht),RightTs.nil⟩⟩
 case round =>
  obtain ⟨i,ts,H1,hi,rfl,HLE,HOLD,C,hdl,HOK⟩:=hrel
  clear C0
  obtain ⟨A,cap,hv,hle⟩:=C.out.1.row.slice
  by_cases hlt : i < m
  ·have di : decide ((i : Int) < (m : Int)) = true:=by simp; omega
   subst hv
   have hpb:=prev_bound HOK.out.right
   go_upto_if 15 with (fail)
   go_cut [6] (fun q6 wx => ∃ no : Int,q6 = .int .i64 no ∧ prevNo ts ts.length < no ∧ no ≤ 1000002 ∧ Hid (TcM w bs (K + 600 * i + 20) H1 W (.slice A ts.length cap) ts wx))
   case first =>
    by_cases hne : ts = []
    ·subst hne
     go_wp2_with fail
     all_goals (go_meet; exact ⟨1,rfl,by show (0 : Int) < 1; omega,by omega,C.out.more (by omega)⟩)
    ·have hpos : 0 < ts.length:=List.length_pos_iff.2 hne
     have k0 : decide ((0 : Int) < (ts.length : Int)) = true:=by simp; omega
     obtain ⟨go,capg,rest,hv,hleg,hBg,hglt,hmg,hblk,hrg⟩:=C.out.1.row.form hne
     simp only [Value.slice.injEq,true_and] at hv
     obtain ⟨rfl,rfl⟩:=hv
     obtain ⟨j,hj⟩ : ∃ j,ts.length = j + 1:=⟨ts.length - 1,by omega⟩
     have hjl : j < ts.length:=by omega
     have hlast : prevNo ts ts.length = ts[j].no:=by rw [prev_last hpos]; congr 2; omega
     have a1 : IntKind.i64.wrap ((ts.length : Int) - 1) = (j : Int):=by rw [show (ts.length : Int) - 1 = j by omega]; exact IntWalk.i64_in _ (by omega)
     have HCELL : Hid (∀ W',Orow W' W.heap.size 53 5 fTch (.slice (some ⟨go,0,none⟩) ts.length cap) ts → W'.cell? ⟨go,j * 5,none⟩ = some (.int .i64 (prevNo ts ts.length))):=fun W' ho => by
      obtain ⟨g2,cap2,rest2,hv2,-,-,-,-,hblk2,-⟩:=ho.form hne
      simp only [Value.slice.injEq,true_and,Option.some.injEq,Addr.mk.injEq,and_true] at hv2
      obtain ⟨rfl,rfl⟩:=hv2
      rw [hlast]
      exact hblk2.cell j 0 hjl (by omega)
     have HJ:=Lib.hid hj
     clear hblk hrg hmg hj
     generalize prevNo ts ts.length = pn at *
     go_upto_region 7 with (fail)
     refine wp_region_conc 10 45 (φR bs go (.slice (some ⟨go,0,none⟩) ts.length cap) ts.length j pn) (fun n W' => TcM w bs (K + 600 * i + n) H1 W (.slice (some ⟨go,0,none⟩) ts.length cap) ts W' ∧ wr.heap.size ≤ W'.heap.size) (fun a b => a.grownBy b (some bs)) (by kernel_rfl) (by kernel_rfl) (by rfl) ⟨C.out.drew,Nat.le_refl _⟩ φR_mono ?_ ?_
     ·intro n o hn ho a W2 kk hkk hJ hkn
      have hcs : n = 0 ∨ n = 1 ∨ n = 2 ∨ n = 3 ∨ n = 4 ∨ n = 5 ∨ n = 6 ∨ n = 7 ∨ n = 8 ∨ n = 9:=by omega
      rcases hcs with rfl | rfl | rfl | rfl | rfl | rfl | rfl | rfl | rfl | rfl
      ·obtain rfl:=Option.some.inj ho
       exact ⟨hkn 5 (by decide),⟨hJ.1.same,hJ.2⟩,World.grownBy.refl _ _⟩
      ·obtain rfl:=Option.some.inj ho
       exact ⟨hkn 7 (by decide),⟨hJ.1.same,hJ.2⟩,World.grownBy.refl _ _⟩
      ·obtain rfl:=Option.some.inj ho
       have h1:=slotA_of (hkn 17 (by decide) : a.tmps.getD 17 undef = .int .i64 (ts.length : Int))
       clear hkn ho
       simp only [OpV,execOp]
       simp [go_sem,h1]
       refine ⟨?_,⟨hJ.1.same,hJ.2⟩,World.grownBy.refl _ _⟩
       first | rfl | (show Value.int .i64 _ = Value.int .i64 _; congr 1; done) | (show Value.int .i64 _ = Value.int .i64 _; congr 1; first | exact a1 | (rw [IntWalk.wrap64_in _ (by omega)]; have:=HJ.out; omega))
      ·obtain rfl:=Option.some.inj ho
       have h1:=slotA_of (hkn 16 (by decide) : a.tmps.getD 16 undef = .slice (some ⟨go,0,none⟩) ts.length cap)
       have h2:=slotA_of (hkn 18 (by decide) : a.tmps.getD 18 undef = .int .i64 (j : Int))
       have hjz : (j : Int) < ts.length:=by omega
       clear hkn ho
       simp only [OpV,execOp]
       simp [go_sem,h1,h2,hjz]
       exact ⟨rfl,⟨hJ.1.same,hJ.2⟩,World.grownBy.refl _ _⟩
      ·obtain rfl:=Option.some.inj ho
       have h1:=slotA_of (hkn 19 (by decide) : a.tmps.getD 19 undef = .pointer (some ⟨go,j * 5,none⟩))
       clear hkn ho
       simp only [OpV,execOp]
       simp [go_sem,h1]
       exact ⟨rfl,⟨hJ.1.same,hJ.2⟩,World.grownBy.refl _ _⟩
      ·obtain rfl:=Option.some.inj ho
       have h1:=slotA_of (hkn 20 (by decide) : a.tmps.getD 20 undef = .pointer (some ⟨go,j * 5,none⟩))
       have hc:=HCELL.out _ hJ.1.1.row
       clear hkn ho
       simp only [OpV,execOp]
       simp [go_sem,h1,hc]
       exact ⟨rfl,⟨hJ.1.same,hJ.2⟩,World.grownBy.refl _ _⟩
      ·obtain rfl:=Option.some.inj ho
       exact ⟨hkn 0 (by decide),⟨hJ.1.same,hJ.2⟩,World.grownBy.refl _ _⟩
      ·obtain rfl:=Option.some.inj ho
       clear hkn ho
       simp only [OpV,execOp]
       simp [go_sem]
       exact ⟨⟨W2.heap.size,rfl,AtM.new _ hJ.1.lw.lt⟩,⟨(hJ.1.alloc _).same,by have:=hJ.2; omega⟩,grown_alloc _ _⟩
      ·obtain rfl:=Option.some.inj ho
       have h1:=slotA_of (hkn 22 (by decide) : a.tmps.getD 22 undef = .pointer (some ⟨bs,0,none⟩))
       obtain ⟨g,h2,h3⟩ : ∃ g,a.tmps.getD 23 undef = .slice (some ⟨g,0,none⟩) 3 3 ∧ AtM bs W2 g (.cells #[.int .i64 1,.int .i64 1,.int .i64 2] 3 (0,0)):=hkn 23 (by decide)
       replace h2:=slotA_of h2
       clear hkn ho
       simp only [OpV,execOp]
       simp [go_sem,h1,h2]
       exact (hJ.1.lw.pick (some ⟨g,0,none⟩) 3 [1,1,2] (Ints.of_row h3.2 rfl) (fun b off e => by injection e with e; injection e with e1 e2; rw [← e1]; exact h3.1) (by simp) (by simp) (by omega)).mono fun e w'' ⟨z,he,hm,L',g',hz'⟩ => ⟨_,he,⟨z,rfl,by simp at hm; omega,by simp at hm; omega⟩,⟨hJ.1.asked L' g',by have:=hJ.2; have:=g'.size; omega⟩,g'⟩
      ·obtain rfl:=Option.some.inj ho
       have h1:=slotA_of (hkn 21 (by decide) : a.tmps.getD 21 undef = .int .i64 pn)
       obtain ⟨z,h2,hz1,hz2⟩ : ∃ z : Int,a.tmps.getD 24 undef = .int .i64 z ∧ 1 ≤ z ∧ z ≤ 2:=hkn 24 (by decide)
       replace h2:=slotA_of h2
       have hw : IntKind.i64.wrap (pn + z) = pn + z:=IntWalk.i64_in _ (by omega)
       clear hkn ho
       simp only [OpV,execOp]
       simp [go_sem,h1,h2]
       exact ⟨⟨pn + z,by first | rfl | exact congrArg (Value.int .i64) hw | exact congrArg (Value.int .i64) (IntWalk.wrap64_in _ (by omega)),by omega,by omega⟩,⟨hJ.1.same,hJ.2⟩,World.grownBy.refl _ _⟩
     ·intro x W5 hJ5 hφ
      obtain ⟨z,e9,hz1,hz2⟩ : ∃ z : Int,x 9 = .int .i64 z ∧ pn < z ∧ z ≤ pn + 2:=hφ 9 (by omega)
      have HJ5:=Lib.hid hJ5.1
      clear hφ hJ5
      simp only [List.drop_succ_cons,List.drop_zero,List.take_succ_cons,List.take_zero,putAll,Nat.reduceAdd,e9]
      clear e9
      generalize x 0 = y0
      generalize x 1 = y1
      generalize x 2 = y2
      generalize x 3 = y3
      generalize x 4 = y4
      generalize x 5 = y5
      generalize x 6 = y6
      generalize x 7 = y7
      generalize x 8 = y8
      go_wp2_with fail
      go_meet
      exact ⟨z,rfl,hz1,by omega,HJ5.out.more (by omega)⟩
   case rest =>
    obtain ⟨no,rfl,hn1,hn2,C2⟩:=hcut
    clear C
    go_wp2_with fail
    refine (C2.out.lw.touch (by omega) (HP.out.le HLE.out) (HN.out.le HLE.out) no).mono ?_
    rintro e W3 ⟨d,H2,rfl,le2,old2,L3,g3,hd⟩
    have C3:=Lib.hid (C2.out.laid L3 g3 old2)
    have HLE2:=Lib.hid (HLE.out.trans le2)
    have HOLD2 : Hid (∀ b,b < W.heap.size → H2 b = H b):=fun b hb => (old2 b (Nat.lt_of_lt_of_le hb C2.out.2.size)).trans (HOLD.out b hb)
    have HOK2:=Lib.hid (HOK.out.le le2)
    have HD:=Lib.hid hd
    clear C2 HLE HOLD HOK L3 g3 old2 le2 hd
    have D4:=Lib.hid (C3.out.alloc (.cells #[.int .i64 d.no,.int .i64 d.at_,.string d.source,.slice d.ia d.ids.length d.ic,.slice d.fa d.fields.length d.fc] 53))
    have z0 : (W3.alloc (.cells #[.int .i64 d.no,.int .i64 d.at_,.string d.source,.slice d.ia d.ids.length d.ic,.slice d.fa d.fields.length d.fc] 53)).cell? ⟨W3.heap.size,0,none⟩ = some (.int .i64 d.no):=newc 0 rfl
    have z1 : (W3.alloc (.cells #[.int .i64 d.no,.int .i64 d.at_,.string d.source,.slice d.ia d.ids.length d.ic,.slice d.fa d.fields.length d.fc] 53)).cell? ⟨W3.heap.size,1,none⟩ = some (.int .i64 d.at_):=newc 1 rfl
    have z2 : (W3.alloc (.cells #[.int .i64 d.no,.int .i64 d.at_,.string d.source,.slice d.ia d.ids.length d.ic,.slice d.fa d.fields.length d.fc] 53)).cell? ⟨W3.heap.size,2,none⟩ = some (.string d.source):=newc 2 rfl
    have z3 : (W3.alloc (.cells #[.int .i64 d.no,.int .i64 d.at_,.string d.source,.slice d.ia d.ids.length d.ic,.slice d.fa d.fields.length d.fc] 53)).cell? ⟨W3.heap.size,3,none⟩ = some (.slice d.ia d.ids.length d.ic):=newc 3 rfl
    have z4 : (W3.alloc (.cells #[.int .i64 d.no,.int .i64 d.at_,.string d.source,.slice d.ia d.ids.length d.ic,.slice d.fa d.fields.length d.fc] 53)).cell? ⟨W3.heap.size,4,none⟩ = some (.slice d.fa d.fields.length d.fc):=newc 4 rfl
    clear C3
    go_upto_region 9 with (fail)
    generalize W3.alloc (.cells #[.int .i64 d.no,.int .i64 d.at_,.string d.source,.slice d.ia d.ids.length d.ic,.slice d.fa d.fields.length d.fc] 53) = W4 at *
    generalize W3.heap.size = mb at *
    have D5:=Lib.hid (D4.out.alloc (.cells #[.int .i64 d.no,.int .i64 d.at_,.string d.source,.slice d.ia d.ids.length d.ic,.slice d.fa d.fields.length d.fc] 53))
    have HNW:=Lib.hid (new1 (w:=W4) (.cells #[.int .i64 d.no,.int .i64 d.at_,.string d.source,.slice d.ia d.ids.length d.ic,.slice d.fa d.fields.length d.fc] 53))
    have HIN5:=Lib.hid ((D4.out.lw.fin.alloc (.cells #[.int .i64 d.no,.int .i64 d.at_,.string d.source,.slice d.ia d.ids.length d.ic,.slice d.fa d.fields.length d.fc] 53)).add (heap_alloc_new W4 (.cells #[.int .i64 d.no,.int .i64 d.at_,.string d.source,.slice d.ia d.ids.length d.ic,.slice d.fa d.fields.length d.fc] 53)))
    have hl5:=Frz.le_add (o:=(.cells #[.int .i64 d.no,.int .i64 d.at_,.string d.source,.slice d.ia d.ids.length d.ic,.slice d.fa d.fields.length d.fc] 53 (0,0))) (D4.out.lw.fin.none_ (Nat.le_refl W4.heap.size))
    have HTF:=Lib.hid (refTchs_any (H2.add W4.heap.size (.cells #[.int .i64 d.no,.int .i64 d.at_,.string d.source,.slice d.ia d.ids.length d.ic,.slice d.fa d.fields.length d.fc] 53 (0,0))) ((HU.out.le HLE2.out).le hl5) ((HM.out.le HLE2.out).le hl5) (some ⟨W4.heap.size,0,none⟩) 1 [d] _ HIN5.out ⟨row_one (Frz.add_at _ _ _),fun t ht => by simp at ht; subst ht; exact ⟨HD.out.ids.le hl5,HD.out.fds.le hl5⟩⟩ (by simp) (fun t ht => by simp at ht; subst ht; exact HD.out.sz))
    clear hl5 HIN5
    go_wp2_with fail
    refine HTF.out.mono ?_
    rintro e W6 ⟨ze,rfl,hze,hb6⟩
    have D6:=Lib.hid (D5.out.call hb6)
    have hb46:=HNW.out.trans (hb6.mono HNW.out.size)
    have y0:=lift_cell z0 _ hb46
    have y1:=lift_cell z1 _ hb46
    have y2:=lift_cell z2 _ hb46
    have y3:=lift_cell z3 _ hb46
    have y4:=lift_cell z4 _ hb46
    have HZE:=Lib.hid hze
    clear hb6 hb46 hze z0 z1 z2 z3 z4 D4 D5 HNW HTF
    by_cases g1 : ze = 0
    rotate_left
    ·have k1 : (ze == 0) = false:=by simpa using g1
     clear g1
     go_wp2_with fail
     go_roundw
     case rel => exact ⟨i + 1,ts,H2,by omega,by go_num,HLE2,HOLD2,D6.out.more (by omega),by omega,HOK2⟩
     case measure => simp [intOf]; omega
    have k1 : (ze == 0) = true:=by simpa using g1
    have HT1:=Lib.hid (tchs_one (HZE.out g1))
    clear g1 HZE
    by_cases g2 : d.no = no
    rotate_left
    ·have k2 : (d.no == no) = false:=by simpa using g2
     clear g2
     go_wp2_with fail
     go_roundw
     case rel => exact ⟨i + 1,ts,H2,by omega,by go_num,HLE2,HOLD2,D6.out.more (by omega),by omega,HOK2⟩
     case measure => simp [intOf]; omega
    ·have k2 : (d.no == no) = true:=by simpa using g2
     have HOK3:=Lib.hid (HOK2.out.snoc HD.out HT1.out (by rw [g2]; exact hn1))
     have hsz : ts.length ≤ 4294967296:=by omega
     clear g2 hn1 hpb
     generalize hv2 : Value.slice A ts.length cap = v2 at D6
     have HOr:=Lib.hid D6.out.1.row
     have HST:=Lib.hid (fun v' W' o g1 at1 => D6.out.app (v':=v') (W':=W') (ds':=ts ++ [d]) o g1 at1)
     have hB9:=D6.out.1.2.2.2.2
     go_wp2_with (at_builtin; refine wpList_app_at rfl _ _ 46 rfl W.heap.size 53 i0 (.agg #[.int .i64 0,.int .i64 0,.string ⟨#[]⟩,.slice none 0 0,.slice none 0 0]) 5 80 Tryz.underlying46 hi0 hz0 hz1 hz2 rfl (by decide) fTch _ ts rfl HOr.out d #[.int .i64 d.no,.int .i64 d.at_,.string d.source,.slice d.ia d.ids.length d.ic,.slice d.fa d.fields.length d.fc] 53 rfl rfl (by simp [Value.oneCell']) (by omega) (by omega) hB9 ?_; intro v1 w2 o1 g1 b1 at1; have CA:=Lib.hid (HST.out v1 w2 o1 g1 at1); clear o1 g1 b1 at1 HST HOr)
     go_roundw
     case rel => exact ⟨i + 1,_,H2,by omega,by go_num,HLE2,HOLD2,CA.out.more (by omega),by simp; omega,HOK3⟩
     case measure => simp [intOf]; omega
  ·have hie : i = m:=by omega
   subst hie
   subst hv
   have HF : Hid (RtPost w bs K i H W (.returned (.slice A ts.length cap)) wr):=⟨_,ts,H1,rfl,HLE.out,HOLD.out,C.out.more (by omega),HOK.out,hdl⟩
   go_wp2_with fail
   exact bodyPost_ret (by kernel_rfl) rfl HF.out
open Go.RowKit
def WkS (r : RulD) : Prop:=r.weaks.length ≤ 10 ∨ 200 < r.weaks.length
def JrPost (w : World) (bs K : Nat) (H : Frz) (W : World) (e : Ending) (W' : World) : Prop:=∃ (r : RulD) (H' : Frz),e = .returned (.agg #[.slice r.ka r.kinds.length r.kc,.int .i64 r.most,.slice r.wa r.weaks.length r.wc,.slice r.sa r.surs.length r.sc]) ∧ H.Le H' ∧ (∀ b,b < W.heap.size → H' b = H b) ∧ Lw w bs (K + 2000) H' W' ∧ W.grownBy W' (some bs) ∧ RulIn H' r ∧ SzR r ∧ WkS r
def RrPost (w : World) (bs K : Nat) (H : Frz) (W : World) (e : Ending) (W' : World) : Prop:=∃ (r : RulD) (H' : Frz),e = .returned (.agg #[.slice r.ka r.kinds.length r.kc,.int .i64 r.most,.slice r.wa r.weaks.length r.wc,.slice r.sa r.surs.length r.sc]) ∧ H.Le H' ∧ (∀ b,b < W.heap.size → H' b = H b) ∧ Lw w bs (K + 10000) H' W' ∧ W.grownBy W' (some bs) ∧ RulIn H' r ∧ SzR r ∧ rulE r = 0 ∧ r.weaks.length ≤ 10
theorem rw_12 {H : Frz} {q : Nat} (h : H q = some (.cells #[.int .i64 1,.int .i64 2] 3 (0,0))) : Rw H (some ⟨q,0,none⟩) 1 fI [1,2]:=by
 intro i hi
 have : i = 0 ∨ i = 1:=by simp at hi; omega
 rcases this with rfl | rfl
 ·refine ⟨q,0,rfl,fun j hj => ?_⟩
  have : j = 0:=by omega
  subst this
  simp [Frz.cell?,h,fI]
 ·refine ⟨q,0,rfl,fun j hj => ?_⟩
  have : j = 0:=by omega
  subst this
  simp [Frz.cell?,h,fI]
def lastRul (q : Nat) : RulD:={ ka:=some ⟨q,0,none⟩,kc:=2,kinds:=[1,2],most:=3,wa:=none,wc:=0,weaks:=[],sa:=none,sc:=0,surs:=[] }
theorem last_zero (q : Nat) : rulE (lastRul q) = 0:=by kernel_rfl
theorem last_sz (q : Nat) : SzR (lastRul q):=⟨by show (2 : Nat) ≤ _; omega,by show (0 : Nat) ≤ _; omega,(fun x hx => by cases hx),by show (0 : Nat) ≤ _; omega,(fun x hx => by cases hx)⟩
theorem last_in {H : Frz} {q : Nat} (h : H q = some (.cells #[.int .i64 1,.int .i64 2] 3 (0,0))) : RulIn H (lastRul q):=⟨rw_12 h,Rw.nil,Rw.nil,(fun x hx => by cases hx)⟩
structure RR0 (w : World) (bs K : Nat) (H0 H : Frz) (W00 : World) (rb : Nat) (wr : World) : Prop where
 lw : Lw w bs K H wr
 res : wr.heap[rb]? = some (.cells #[.slice none 0 0,.int .i64 0,.slice none 0 0,.slice none 0 0] 44 (0,0))
 br : bs < rb
 hr : H rb = none
 gr : W00.grownBy wr (some bs)
 le : H0.Le H
 old : ∀ b,b < W00.heap.size → H b = H0 b
 lr : W00.heap.size ≤ rb
section
variable {w wr W' W00 : World} {bs K K' rb : Nat} {H0 H H' : Frz}
theorem RR0.more (h : RR0 w bs K H0 H W00 rb wr) (hK : K ≤ K') : RR0 w bs K' H0 H W00 rb wr:=⟨h.lw.more hK,h.res,h.br,h.hr,h.gr,h.le,h.old,h.lr⟩
theorem RR0.call (h : RR0 w bs K H0 H W00 rb wr) (hb : Below wr.heap.size wr W') : RR0 w bs K H0 H W00 rb W' :=
 ⟨h.lw.call hb,(hb.block _ (lt_of_heap h.res)).trans h.res,h.br,h.hr,vm_then h.gr (vm_below hb),h.le,h.old,h.lr⟩
theorem RR0.laid (h : RR0 w bs K H0 H W00 rb wr) (L : Lw w bs K' H' W') (g : wr.grownBy W' (some bs)) (hl : H.Le H') (ho : ∀ b,b < wr.heap.size → H' b = H b) : RR0 w bs K' H0 H' W00 rb W' :=
 ⟨L,(g.block _ (lt_of_heap h.res) (fun e => by injection e with e; have:=h.br; omega)).trans h.res,h.br,(ho _ (lt_of_heap h.res)).trans h.hr,vm_then h.gr g,h.le.trans hl,fun b hb => (ho b (Nat.lt_of_lt_of_le hb h.gr.size)).trans (h.old b hb),h.lr⟩
theorem RR0.put (h : RR0 w bs K H0 H W00 rb wr) (o : Obj) : RR0 w bs K H0 (H.add wr.heap.size o) W00 rb (wr.alloc o) ∧ (H.add wr.heap.size o) wr.heap.size = some o:=by
 have hl:=Frz.le_add (o:=o) (h.lw.fin.none_ (Nat.le_refl _))
 have hs:=h.gr.size
 have hr:=lt_of_heap h.res
 refine ⟨⟨(h.lw.alloc o).keep (heap_at rfl) (by have:=h.lw.lt; omega),(h.call (new1 o)).res,h.br,?_,(h.call (new1 o)).gr,h.le.trans hl,fun b hb => ?_,h.lr⟩,Frz.add_at _ _ _⟩
 ·rw [Frz.add_other (by omega)]; exact h.hr
 ·rw [Frz.add_other (by omega)]; exact h.old b hb
theorem RR0.done (h : RR0 w bs K H0 H W00 rb wr) (hK : K ≤ K') (v0 v1 v2 v3 : Value) : Lw w bs K' H ((((wr.setCell ⟨rb,0,none⟩ v0).setCell ⟨rb,1,none⟩ v1).setCell ⟨rb,2,none⟩ v2).setCell ⟨rb,3,none⟩ v3) ∧ W00.grownBy ((((wr.setCell ⟨rb,0,none⟩ v0).setCell ⟨rb,1,none⟩ v1).setCell ⟨rb,2,none⟩ v2).setCell ⟨rb,3,none⟩ v3) (some bs):=by
 have hg9:=vm_setc (vm_setc (vm_setc (vm_setc (World.grownBy.refl wr (some rb)) 0 v0) 1 v1) 2 v2) 3 v3
 refine ⟨(h.lw.grown hg9 (fun q hq => by injection hq with hq; subst hq; exact ⟨h.br,h.hr⟩)).more hK,⟨hg9.os.trans h.gr.os,hg9.tape.trans h.gr.tape,hg9.output.trans h.gr.output,Nat.le_trans h.gr.size hg9.size,fun b hb hne => ?_⟩⟩
 have:=h.lr
 exact (hg9.block b (Nat.lt_of_lt_of_le hb h.gr.size) (fun e => by injection e with e; omega)).trans (h.gr.block b hb hne)
end
set_option maxHeartbeats 8000000 in
set_option maxRecDepth 100000 in
theorem Lw.rightRules_of {w W : World} {bs K : Nat} {H : Frz} (h : Lw w bs K H W) (hK : K ≤ 100000) (hP : PoolIn H) (hN : NamesIn H) (hM : MLen H)
  (hJ : ∀ (K : Nat) (H : Frz) (W : World),Lw w bs K H W → K ≤ 200000 → PoolIn H → NamesIn H → Calls Tryz.prog 78 #[.pointer (some ⟨bs,0,none⟩)] W (JrPost w bs K H W)) :
  Calls Tryz.prog 19 #[.pointer (some ⟨bs,0,none⟩)] W (RrPost w bs K H W):=by
 have hbs:=h.lt
 have C0 : Hid (RR0 w bs K H H W W.heap.size (W.alloc (.cells #[.slice none 0 0,.int .i64 0,.slice none 0 0,.slice none 0 0] 44))):=⟨h.alloc _,heap_at rfl,h.lt,h.fin.none_ (Nat.le_refl _),grown_alloc _ _,Frz.Le.refl _,fun _ _ => rfl,Nat.le_refl _⟩
 have HP:=Lib.hid hP
 have HN:=Lib.hid hN
 have HM:=Lib.hid hM
 have HJ:=Lib.hid hJ
 clear h hP hN hM hJ
 go_enter Tryz.func19,Tryz.ntmps19
 go_upto_region 1 with (fail)
 generalize W.alloc (.cells #[.slice none 0 0,.int .i64 0,.slice none 0 0,.slice none 0 0] 44) = W1 at C0 ⊢
 go_wp2_with fail
 go_loopw [4] (fun t wr => ∃ (i : Nat) (H' : Frz),i ≤ 5 ∧ t = .int .i64 i ∧ Hid (RR0 w bs (K + 2000 * i) H H' W W.heap.size wr)) (fun t _ => 5 - (intOf t).toNat)
 case atStart => exact ⟨0,H,by omega,rfl,C0⟩
 case round =>
  obtain ⟨i,H1,hi,rfl,C⟩:=hrel
  clear C0
  by_cases hlt : i < 5
  ·have di : decide ((i : Int) < 5) = true:=by simp; omega
   go_wp2_with fail
   refine (HJ.out _ H1 wr C.out.lw (by omega) (HP.out.le C.out.le) (HN.out.le C.out.le)).mono ?_
   rintro e W2 ⟨r,H2,rfl,le2,old2,L2,g2,hri,hsz,hwk⟩
   have HWK:=Lib.hid hwk
   have D2:=Lib.hid (C.out.laid L2 g2 le2 old2)
   have HRI:=Lib.hid hri
   have HSZ:=Lib.hid hsz
   clear C le2 old2 L2 g2 hri hsz hwk
   have D3:=Lib.hid (D2.out.call (new1 (.cells #[.slice r.ka r.kinds.length r.kc,.int .i64 r.most,.slice r.wa r.weaks.length r.wc,.slice r.sa r.surs.length r.sc] 44)))
   have z0 : (W2.alloc (.cells #[.slice r.ka r.kinds.length r.kc,.int .i64 r.most,.slice r.wa r.weaks.length r.wc,.slice r.sa r.surs.length r.sc] 44)).cell? ⟨W2.heap.size,0,none⟩ = some (.slice r.ka r.kinds.length r.kc):=newc 0 rfl
   have z1 : (W2.alloc (.cells #[.slice r.ka r.kinds.length r.kc,.int .i64 r.most,.slice r.wa r.weaks.length r.wc,.slice r.sa r.surs.length r.sc] 44)).cell? ⟨W2.heap.size,1,none⟩ = some (.int .i64 r.most):=newc 1 rfl
   have z2 : (W2.alloc (.cells #[.slice r.ka r.kinds.length r.kc,.int .i64 r.most,.slice r.wa r.weaks.length r.wc,.slice r.sa r.surs.length r.sc] 44)).cell? ⟨W2.heap.size,2,none⟩ = some (.slice r.wa r.weaks.length r.wc):=newc 2 rfl
   have z3 : (W2.alloc (.cells #[.slice r.ka r.kinds.length r.kc,.int .i64 r.most,.slice r.wa r.weaks.length r.wc,.slice r.sa r.surs.length r.sc] 44)).cell? ⟨W2.heap.size,3,none⟩ = some (.slice r.sa r.surs.length r.sc):=newc 3 rfl
   clear D2
   go_upto_region 4 with (fail)
   generalize W2.alloc (.cells #[.slice r.ka r.kinds.length r.kc,.int .i64 r.most,.slice r.wa r.weaks.length r.wc,.slice r.sa r.surs.length r.sc] 44) = W3 at *
   generalize W2.heap.size = mb at *
   have HRF:=Lib.hid (refRul_any H2 (HM.out.le D3.out.le) r W3 D3.out.lw.fin HRI.out HSZ.out)
   go_wp2_with fail
   refine HRF.out.mono ?_
   rintro e W4 ⟨ze,rfl,hze,hb4⟩
   have D4:=Lib.hid (D3.out.call hb4)
   have y0:=lift_cell z0 _ hb4
   have y1:=lift_cell z1 _ hb4
   have y2:=lift_cell z2 _ hb4
   have y3:=lift_cell z3 _ hb4
   have HZE:=Lib.hid hze
   clear hb4 hze z0 z1 z2 z3 D3 HRF
   by_cases g1 : ze = 0
   ·have k1 : (ze == 0) = true:=by simpa using g1
    have HR0:=Lib.hid (HZE.out g1)
    clear g1
    have hkr:=D4.out.res
    have rr0:=cell_h hkr 0 (v:=.slice none 0 0) rfl
    have rf0:=froz_h hkr 0
    have rr1:=cell_h hkr 1 (v:=.int .i64 0) rfl
    have rf1:=froz_h hkr 1
    have rr2:=cell_h hkr 2 (v:=.slice none 0 0) rfl
    have rf2:=froz_h hkr 2
    have rr3:=cell_h hkr 3 (v:=.slice none 0 0) rfl
    have rf3:=froz_h hkr 3
    go_wp2_with fail
    (try simp only [Exit.inBlock,Exit.then])
    have hh9:=ms_set4 hkr (.slice r.ka r.kinds.length r.kc) (.int .i64 r.most) (.slice r.wa r.weaks.length r.wc) (.slice r.sa r.surs.length r.sc)
    refine bodyPost_ret (results_cell_row rfl _ _ W.heap.size 44 _ (0,0) _ rfl hh9 Tryz.underlying44 rfl (by kernel_rfl)) rfl ?_
    obtain ⟨hlw,hgw⟩:=D4.out.done (K':=K + 10000) (by omega) (.slice r.ka r.kinds.length r.kc) (.int .i64 r.most) (.slice r.wa r.weaks.length r.wc) (.slice r.sa r.surs.length r.sc)
    exact ⟨r,H2,rfl,D4.out.le,D4.out.old,hlw,hgw,HRI.out,HSZ.out,HR0.out,by have h1:=(rul_right HR0.out).1.wl; rcases HWK.out with h2 | h2 <;> omega⟩
   ·have k1 : (ze == 0) = false:=by simpa using g1
    clear g1
    go_wp2_with fail
    go_roundw
    case rel => exact ⟨i + 1,H2,by omega,by go_num,D4.out.more (by omega)⟩
    case measure => simp [intOf]; omega
  ·have hie : i = 5:=by omega
   subst hie
   obtain ⟨D2,hq⟩:=C.out.put (.cells #[.int .i64 1,.int .i64 2] 3)
   have D2:=Lib.hid D2
   have HQ:=Lib.hid hq
   clear hq
   have hkr:=D2.out.res
   have rr0:=cell_h hkr 0 (v:=.slice none 0 0) rfl
   have rf0:=froz_h hkr 0
   have rr1:=cell_h hkr 1 (v:=.int .i64 0) rfl
   have rf1:=froz_h hkr 1
   have rr2:=cell_h hkr 2 (v:=.slice none 0 0) rfl
   have rf2:=froz_h hkr 2
   have rr3:=cell_h hkr 3 (v:=.slice none 0 0) rfl
   have rf3:=froz_h hkr 3
   go_wp2_with fail
   (try simp only [Exit.inBlock,Exit.then])
   have hh9:=ms_set4 hkr (.slice (some ⟨wr.heap.size,0,none⟩) 2 2) (.int .i64 3) (.slice none 0 0) (.slice none 0 0)
   refine bodyPost_ret (results_cell_row rfl _ _ W.heap.size 44 _ (0,0) _ rfl hh9 Tryz.underlying44 rfl (by kernel_rfl)) rfl ?_
   obtain ⟨hlw,hgw⟩:=D2.out.done (K':=K + 10000) (by omega) (.slice (some ⟨wr.heap.size,0,none⟩) 2 2) (.int .i64 3) (.slice none 0 0) (.slice none 0 0)
   exact ⟨lastRul wr.heap.size,_,rfl,D2.out.le,D2.out.old,hlw,hgw,last_in HQ.out,last_sz _,last_zero _,by show (0 : Nat) ≤ _; omega⟩
open Go.RowKit
theorem fit_of {x : IdD} (h : idErr x.kind x.text = 0) : FitId x:=by
 obtain ⟨-,-,h3,h4⟩:=norm_same h ⟨#[]⟩
 exact ⟨by omega,by omega⟩
def JoinsMake : Prop:=∀ (w : World) (bs K : Nat) (H : Frz) (W : World),Lw w bs K H W → K ≤ 200000 → PoolIn H → NamesIn H → Calls Tryz.prog 78 #[.pointer (some ⟨bs,0,none⟩)] W (JrPost w bs K H W)
structure Told (H : Frz) (A : Option Addr) (r : RulD) (ts : List TchD) : Prop where
 row : Rw H A 5 fTch ts
 inn : ∀ t ∈ ts,TcIn H t
 rul : RulIn H r
 sz : SzR r
 rz : rulE r = 0
 right : RightTs ts
 len : ts.length ≤ 100
theorem RightTs.pre {ts : List TchD} (h : RightTs ts) (k : Nat) : RightTs (ts.take k):=by
 unfold RightTs at h ⊢
 have h0:=fstErr_zero.1 h
 refine fstErr_zero.2 fun i hi => ?_
 rw [List.length_take] at hi
 have:=h0 i (by omega)
 unfold tch1 at this ⊢
 rw [List.getElem?_take_of_lt (by omega)]
 have e : prevNo (ts.take k) i = prevNo ts i:=by
  cases i with
  | zero => rfl
  | succ i =>
   unfold prevNo
   simp only
   rw [List.getElem?_take_of_lt (by omega)]
 rw [e]
 exact this
theorem Told.pre {H : Frz} {A : Option Addr} {r : RulD} {ts : List TchD} (h : Told H A r ts) (k : Nat) : Told H A r (ts.take k) :=
 ⟨h.row.take k,fun t ht => h.inn t (List.mem_of_mem_take ht),h.rul,h.sz,h.rz,h.right.pre k,by have:=h.len; rw [List.length_take]; omega⟩
theorem Told.le {H H' : Frz} {A : Option Addr} {r : RulD} {ts : List TchD} (h : Told H A r ts) (hl : H.Le H') : Told H' A r ts:=⟨h.row.le hl,fun t ht => (h.inn t ht).le hl,h.rul.le hl,h.sz,h.rz,h.right,h.len⟩
theorem Told.both {H : Frz} {A : Option Addr} {r : RulD} {ts : List TchD} (h : Told H A r ts) : bothE r ts = 0:=by
 unfold bothE
 rw [if_neg (by rw [h.rz]; simp)]
 exact h.right.all (by have:=h.len; omega)
theorem Told.rising {H : Frz} {A : Option Addr} {r : RulD} {ts : List TchD} (h : Told H A r ts) : ts.Pairwise fun a b => a.no < b.no:=(tchs_right (h.right.all (by have:=h.len; omega))).2.2
theorem persons_toldN (H : Frz) (hU : UtfIn H) (hM : MLen H) (A : Option Addr) (cap : Nat) (r : RulD) (ts : List TchD) (h : Told H A r ts) (w : World) (hH : H.In w) :
  Calls Tryz.prog 22 #[.agg #[.slice r.ka r.kinds.length r.kc,.int .i64 r.most,.slice r.wa r.weaks.length r.wc,.slice r.sa r.surs.length r.sc],.slice A ts.length cap] w fun e w' => Below w.heap.size w w' ∧ ∃ (A' : Option Addr) (c : Nat) (ps : List PerD) (rr : List Nat),e = .returned (.tuple #[.slice A' ps.length c,.int .i64 0]) ∧ Uf (Share (JD r ts) ts) rr ∧ PerIn (wholeH w') A' ps ∧ PersQ (JD r ts) ts (repN rr) ps ∧ ps.length ≤ c ∧ PerIn (newH w.heap.size w') A' ps:=by
 have ht:=(tchs_right (h.right.all (by have:=h.len; omega))).2.1
 refine (Persons_any H hU hM r A cap ts w hH h.rul ⟨h.row,fun t hx => ⟨(h.inn t hx).ids,(h.inn t hx).fds⟩⟩ h.sz (by have:=h.len; omega) (fun t hx => (h.inn t hx).sz) (fun t hx x hxx => fit_of ((ht t hx).idE x hxx))).mono ?_
 rintro e w' ⟨hb,ho⟩
 rcases ho with ⟨g,-⟩ | ⟨-,A',c,ps,rr,he,hu,hp,hq,hc⟩
 ·exact absurd h.both g
 ·exact ⟨hb,A',c,ps,rr,he,hu,hp,hq,hc⟩
theorem persons_told (H : Frz) (hU : UtfIn H) (hM : MLen H) (A : Option Addr) (cap : Nat) (r : RulD) (ts : List TchD) (h : Told H A r ts) (w : World) (hH : H.In w) :
  Calls Tryz.prog 22 #[.agg #[.slice r.ka r.kinds.length r.kc,.int .i64 r.most,.slice r.wa r.weaks.length r.wc,.slice r.sa r.surs.length r.sc],.slice A ts.length cap] w fun e w' => Below w.heap.size w w' ∧ ∃ (A' : Option Addr) (c : Nat) (ps : List PerD) (rr : List Nat),e = .returned (.tuple #[.slice A' ps.length c,.int .i64 0]) ∧ Uf (Share (JD r ts) ts) rr ∧ PerIn (wholeH w') A' ps ∧ PersQ (JD r ts) ts (repN rr) ps ∧ ps.length ≤ c:=by
 refine (persons_toldN H hU hM A cap r ts h w hH).mono ?_
 rintro e w' ⟨hb,A',c,ps,rr,he,hu,hp,hq,hc,-⟩
 exact ⟨hb,A',c,ps,rr,he,hu,hp,hq,hc⟩
open Go.RowKit
theorem pers_sz {J : IdD → Bool} {ts : List TchD} {rep : Nat → Nat} {ps : List PerD} (hq : PersQ J ts rep ps) (hl : ts.length ≤ 100) : ps.length ≤ 1000000 ∧ ∀ p ∈ ps,p.nos.length ≤ 1000000:=by
 have h1:=rts_le rep ts.length
 refine ⟨by rw [hq.len]; omega,fun p hp => ?_⟩
 obtain ⟨k,hk,rfl⟩:=List.getElem_of_mem hp
 have hkr : k < (rts rep ts.length).length:=by rw [← hq.len]; exact hk
 have:=cls_le rep ts.length (rts rep ts.length)[k]
 rw [hq.nos k hkr hk,List.length_map]
 omega
end Go.Proofs.YtbidhpgjmcedaaaGreatDoor
