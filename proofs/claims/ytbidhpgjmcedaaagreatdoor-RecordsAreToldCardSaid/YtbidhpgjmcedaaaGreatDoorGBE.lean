/- Texts of this claim, put together: IdxPer, Together, TogP, RefValP, RefPts, RefKey, RefSign, RefIdP, RefId. -/
import Derived.Test.YtbidhpgjmcedaaaGreatDoorGAB
import Derived.Test.YtbidhpgjmcedaaaGreatDoorGAC
import Derived.StillTailTactics
import Derived.Deep.Cut
import Derived.Test.YtbidhpgjmcedaaaGreatDoorGAW
import Derived.Test.YtbidhpgjmcedaaaGreatDoorGAN
import Derived.Test.YtbidhpgjmcedaaaGreatDoorGAY
import Derived.Test.YtbidhpgjmcedaaaGreatDoorGAF
import Derived.Lib.ValidLaws
import Derived.Lib.TrimUEq
import Derived.Test.YtbidhpgjmcedaaaGreatDoorGAZ
import Derived.Test.YtbidhpgjmcedaaaGreatDoorGAH
import Derived.Test.YtbidhpgjmcedaaaGreatDoorGAA
import Derived.Shelf.Strings.SlTrimAscii
namespace Go.Proofs.YtbidhpgjmcedaaaGreatDoor
set_option linter.unusedVariables false
open Go.RowKit
section
variable {D : Type}
set_option maxHeartbeats 1000000 in
theorem indexFunc_Per (H : Frz) (f : D → Nat → Value) (kf : Nat) (caps : List Value) (p : D → Bool) (ds : List D) (hp : ∀ (W : World) (d : D),d ∈ ds → H.In W → Calls Tryz.prog kf ((.agg #[f d 0,f d 1,f d 2,f d 3] : Value) :: caps).toArray W fun e W' => e = .returned (.bool (p d)) ∧ Below W.heap.size W W')
  (hcall : ∀ (a : Value) (W : World),(callFunc kf (a :: caps).toArray).run Tryz.prog W = .ok (.enter kf (a :: caps).toArray) W)
  (A : Option Addr) (cap : Nat) (w : World) (hH : H.In w) (hR : Rw H A 4 f ds) (hl : ds.length ≤ 1000000) :
  Calls Tryz.prog 28 #[.slice A ds.length cap,.func (.func kf) #[] caps.toArray] w fun e w' => e = .returned (.int .i64 (idxF p ds)) ∧ Below w.heap.size w w':=by
 have HP:=Lib.hid hp
 have HR:=Lib.hid hR
 have HH:=Lib.hid hH
 clear hp hR hH
 go_enter Tryz.func28,Tryz.ntmps28
 go_wp2_with fail
 go_loopw [5,8] (fun _ t wr => ∃ i : Nat,i ≤ ds.length ∧ t = .int .i64 i ∧ Hid ((ds.take i).any p = false) ∧ Hid (Below w.heap.size w wr)) (fun _ t _ => ds.length - (intOf t).toNat)
 case atStart => exact ⟨0,by omega,rfl,rfl,Below.refl _ _⟩
 case round =>
  obtain ⟨i,hi,rfl,hall,hb⟩:=hrel
  by_cases hlt : i < ds.length
  ·obtain ⟨b,off,rfl,hbl,hc⟩:=HR.out.at_ (HH.out.below hb.out) hlt (by omega)
   have c0 : wr.cell? ⟨b,off + i * 4,none⟩ = some (f ds[i] 0):=hc 0 (by omega)
   have c1 : wr.cell? ⟨b,off + i * 4 + 1,none⟩ = some (f ds[i] 1):=hc 1 (by omega)
   have c2 : wr.cell? ⟨b,off + i * 4 + 2,none⟩ = some (f ds[i] 2):=hc 2 (by omega)
   have c3 : wr.cell? ⟨b,off + i * 4 + 3,none⟩ = some (f ds[i] 3):=hc 3 (by omega)
   have HC:=Lib.hid (fun W hW => HP.out W ds[i] (List.getElem_mem hlt) hW)
   have ht:=Lib.hid (idxF_found (p:=p) hlt hall.out)
   have ht2:=Lib.hid (any_take_succ (p:=p) hlt hall.out)
   clear hc
   generalize hpd : p ds[i] = q at HC ht ht2
   generalize f ds[i] 0 = x0 at c0 HC
   generalize f ds[i] 1 = x1 at c1 HC
   generalize f ds[i] 2 = x2 at c2 HC
   generalize f ds[i] 3 = x3 at c3 HC
   clear hpd
   go_wp2_with fail
   refine (HC.out _ (HH.out.below hb.out)).mono ?_
   rintro e w1 ⟨rfl,hb1⟩
   have hb2:=Lib.hid (hb.out.trans (hb1.mono hb.out.size))
   clear hb1 hb
   cases q with
   | true =>
    go_wp2_with fail
    go_ret
    exact ⟨ret_int (ht.out (by simp)).symm,hb2.out⟩
   | false =>
    go_wp2_with fail
    go_roundw
    case rel => exact ⟨i + 1,by omega,by go_num,ht2.out (by simp),hb2⟩
    case measure => simp [intOf]; omega
  ·have hf:=Lib.hid (idxF_none (p:=p) (show ds.any p = false by have:=hall.out; rwa [List.take_of_length_le (by omega)] at this))
   go_wp2_with fail
   go_ret
   exact ⟨ret_int hf.out.symm,hb.out⟩
set_option maxHeartbeats 1000000 in
theorem containsFunc_Per (H : Frz) (f : D → Nat → Value) (kf : Nat) (caps : List Value) (p : D → Bool) (ds : List D) (hp : ∀ (W : World) (d : D),d ∈ ds → H.In W → Calls Tryz.prog kf ((.agg #[f d 0,f d 1,f d 2,f d 3] : Value) :: caps).toArray W fun e W' => e = .returned (.bool (p d)) ∧ Below W.heap.size W W')
  (hcall : ∀ (a : Value) (W : World),(callFunc kf (a :: caps).toArray).run Tryz.prog W = .ok (.enter kf (a :: caps).toArray) W)
  (A : Option Addr) (cap : Nat) (w : World) (hH : H.In w) (hR : Rw H A 4 f ds) (hl : ds.length ≤ 1000000) :
  Calls Tryz.prog 31 #[.slice A ds.length cap,.func (.func kf) #[] caps.toArray] w fun e w' => e = .returned (.bool (anyF p ds)) ∧ Below w.heap.size w w':=by
 have HI:=Lib.hid (indexFunc_Per H f kf caps p ds hp hcall A cap w hH hR hl)
 have hx:=Lib.hid (idxF_any p ds)
 clear hp hR hH hcall
 go_enter Tryz.func31,Tryz.ntmps31
 go_wp2_with fail
 refine HI.out.mono ?_
 rintro e w1 ⟨rfl,hb⟩
 generalize idxF p ds = n at hx
 have HB:=Lib.hid hb
 clear hb
 go_wp2_with fail
 go_ret
 exact ⟨ret_bool' hx.out,HB.out⟩
end
open Go.RowKit
open Go.RowKit
theorem in_cls {rep : Nat → Nat} {n r q : Nat} : q ∈ cls rep n r ↔ q < n ∧ rep q = r:=by
 unfold cls
 rw [List.mem_filter,List.mem_range,beq_iff_eq]
open Go.RowKit
theorem decL_eq {s : ByteArray} (h : 0 < s.size) : Lib.decodeL s.data.toList = Lib.decodeGo s:=by
 unfold Lib.decodeL Lib.decodeGo
 rw [if_neg (by omega)]
theorem decN_bytes (n b0 b1 b2 b3 : Nat) (h : ¬ ((Lib.decodeN n b0 b1 b2 b3).1 = 65533 ∧ (Lib.decodeN n b0 b1 b2 b3).2 = 1)) :
  ((Lib.decodeN n b0 b1 b2 b3).2 = 1 ∧ (Lib.decodeN n b0 b1 b2 b3).1 = b0) ∨ ((Lib.decodeN n b0 b1 b2 b3).2 = 2 ∧ 128 ≤ b0 ∧ 128 ≤ b1) ∨ ((Lib.decodeN n b0 b1 b2 b3).2 = 3 ∧ 128 ≤ b0 ∧ 128 ≤ b1 ∧ 128 ≤ b2) ∨ ((Lib.decodeN n b0 b1 b2 b3).2 = 4 ∧ 128 ≤ b0 ∧ 128 ≤ b1 ∧ 128 ≤ b2 ∧ 128 ≤ b3):=by
 unfold Lib.decodeN at h ⊢
 repeat' split
 all_goals simp only at h ⊢
 all_goals first | omega | (simp_all; done) | (split at h <;> simp_all <;> omega)
theorem txt_all : ∀ (n : Nat) (s : ByteArray),s.size ≤ n → (∀ p ∈ ptS s,32 ≤ p ∧ p ≠ 127) → Lib.validD s.data.toList = true ∧ ∀ c ∈ s.data.toList,txtC c = true
 | 0,s,hn,_ => by
  have hz : s.data.toList.length = s.size:=by simp
  have : s.data.toList = []:=List.eq_nil_of_length_eq_zero (by omega)
  rw [this]
  exact ⟨Lib.validD_nil,fun c hc => by cases hc⟩
 | n + 1,s,hn,h => by
  have hz : s.data.toList.length = s.size:=by simp
  rcases Nat.eq_zero_or_pos s.size with h0 | h0
  ·have : s.data.toList = []:=List.eq_nil_of_length_eq_zero (by omega)
   rw [this]
   exact ⟨Lib.validD_nil,fun c hc => by cases hc⟩
  rw [ptS_step h0] at h
  have hr:=h (runeOf s) (by simp)
  have hrs:=restOf_size h0
  obtain ⟨i1,i2⟩:=txt_all n (restOf s) (by omega) (fun p hp => h p (by simp [hp]))
  have hd:=dec_bound h0
  have herr : ¬ ((Lib.decodeGo s).1 = 65533 ∧ (Lib.decodeGo s).2 = 1):=fun c => by
   unfold runeOf at hr
   rw [if_pos c] at hr
   omega
  have hrune : runeOf s = ((Lib.decodeGo s).1 : Int):=by unfold runeOf; rw [if_neg herr]
  have hrest : (restOf s).data.toList = s.data.toList.drop (Lib.decodeGo s).2:=by
   unfold restOf
   rw [ba_drop]
  have hne : s.data.toList ≠ []:=fun c => by rw [c] at hz; simp at hz; omega
  constructor
  ·rw [Lib.validD_step _ hne,decL_eq h0,if_neg herr,← hrest]
   exact i1
  ·intro c hc
   rw [← List.take_append_drop (Lib.decodeGo s).2 s.data.toList,← hrest] at hc
   rcases List.mem_append.1 hc with hc | hc
   ·have hN:=Lib.decodeL_N s.data.toList
    rw [decL_eq h0] at hN
    rw [hN] at herr hrune hd hc
    have hb:=decN_bytes _ _ _ _ _ herr
    obtain ⟨j,hj,rfl⟩:=List.getElem_of_mem hc
    rw [List.length_take] at hj
    rw [List.getElem_take]
    have hgj : s.data.toList[j] = s.data.toList.getD j 0:=by rw [List.getD_eq_getElem?_getD,List.getElem?_eq_getElem (by omega)]; rfl
    rw [hgj]
    unfold txtC
    rw [Bool.and_eq_true,decide_eq_true_iff,decide_eq_true_iff]
    rcases hb with ⟨e1,e2⟩ | ⟨e1,e2,e3⟩ | ⟨e1,e2,e3,e4⟩ | ⟨e1,e2,e3,e4,e5⟩
    ·rw [e1] at hj
     have : j = 0:=by omega
     subst this
     rw [hrune,e2] at hr
     omega
    ·rw [e1] at hj
     have : j = 0 ∨ j = 1:=by omega
     rcases this with rfl | rfl <;> omega
    ·rw [e1] at hj
     have : j = 0 ∨ j = 1 ∨ j = 2:=by omega
     rcases this with rfl | rfl | rfl <;> omega
    ·rw [e1] at hj
     have : j = 0 ∨ j = 1 ∨ j = 2 ∨ j = 3:=by omega
     rcases this with rfl | rfl | rfl | rfl <;> omega
   ·exact i2 c hc
theorem okT_of {s : ByteArray} (h : ∀ p ∈ ptS s,32 ≤ p ∧ p ≠ 127) : okT s = true:=by
 obtain ⟨h1,h2⟩:=txt_all s.size s (Nat.le_refl _) h
 unfold okT
 rw [h1]
 exact List.all_eq_true.2 h2
open Go.RowKit
theorem infoInt9 : (Tryz.prog.info? 3).map (fun i => (i.zero,i.size,i.bytes)) = some (some (.int .i64 0),1,8):=by kernel_rfl
theorem byte_wrap64 (b : UInt8) : wrap64 ((b.toNat : Nat) : Int) = ((b.toNat : Nat) : Int) ∧ wrap64 (-1 - ((b.toNat : Nat) : Int)) = -1 - ((b.toNat : Nat) : Int):=by
 have:=b.toNat_lt
 exact ⟨IntWalk.wrap64_in _ (by omega),IntWalk.wrap64_in _ (by omega)⟩
abbrev InM:=IG (D:=Int) 3 1 fI
set_option maxHeartbeats 4000000 in
set_option maxRecDepth 100000 in
theorem refPts_any (H : Frz) (hU : UtfIn H) (s : ByteArray) (w : World) (hH : H.In w) (hs : s.size ≤ 1000000) :
  Calls Tryz.prog 293 #[.string s] w fun e w' => ∃ v,e = .returned v ∧ InM H w.heap.size v (ptS s) w w':=by
 obtain ⟨i0,hi0,hz0,hz1,hz2⟩:=info_parts infoInt9
 have C0 : Hid (InM H w.heap.size (.slice none 0 0) [] w w):=⟨hH,Orow.nil _ _ _ _ _,(fun g hg => by cases hg),Below.refl _ _,Nat.le_refl _,Nat.le_refl _⟩
 have HDE:=Lib.hid (fun t W (hW : H.In W) => Tryz.utf8_DecodeRuneInString t W (hU W hW))
 clear hH hU
 go_enter Tryz.func293,Tryz.ntmps293
 go_wp2_with fail
 go_loopw [0,3] (fun x v wr => ∃ (t : ByteArray) (ds : List Int),x = .string t ∧ Hid (InM H w.heap.size v ds w wr) ∧ Hid (ptS s = ds ++ ptS t) ∧ t.size ≤ s.size ∧ ds.length + t.size ≤ s.size) (fun x _ _ => strSize x)
 case atStart => exact ⟨s,[],rfl,C0,rfl,Nat.le_refl _,by simp⟩
 case round =>
  obtain ⟨t,ds,rfl,C,hpt,hts,hdl⟩:=hrel
  clear C0
  obtain ⟨A,cap,hv,hle⟩:=C.out.row.slice
  subst hv
  cases hem : t.toList.isEmpty with
  | true =>
   have h0:=empty_size.1 hem
   have HF : Hid (InM H w.heap.size (.slice A ds.length cap) (ptS s) w wr):=by
    have e:=hpt.out
    rw [ptS_nil h0,List.append_nil] at e
    show InM _ _ _ _ _ _
    rw [e]
    exact C.out
   go_wp2_with fail
   exact bodyPost_ret (by kernel_rfl) rfl ⟨_,rfl,HF.out⟩
  | false =>
   have h0 : 0 < t.size:=by
    apply Classical.byContradiction
    intro c
    have:=empty_size.2 (show t.size = 0 by omega)
    rw [hem] at this
    cases this
   have hdb:=dec_bound h0
   have HST:=Lib.hid (ptS_step h0)
   have HRZ:=Lib.hid (restOf_size h0)
   have hrb:=runeOf_bound h0
   have HRU : Hid (runeOf t = if (Lib.decodeGo t).1 = 65533 ∧ (Lib.decodeGo t).2 = 1 then -1 - ((t.data.toList.headD 0).toNat : Int) else ((Lib.decodeGo t).1 : Int)):=rfl
   have HRE : Hid (restOf t = t.extract (Lib.decodeGo t).2 t.size):=rfl
   have HDT:=Lib.hid (HDE.out t wr C.out.inn)
   generalize (Lib.decodeGo t).1 = R at *
   generalize (Lib.decodeGo t).2 = K at *
   generalize runeOf t = ru at *
   generalize restOf t = rt at *
   go_wp2_with fail
   refine HDT.out.mono ?_
   rintro e W2 ⟨rfl,hb2⟩
   have C2:=Lib.hid (C.out.below hb2)
   clear HDT C hb2
   have hR : (R : Int) ≤ 1114111:=by omega
   obtain ⟨q,hq⟩ : ∃ q,decide (R = 65533 ∧ K = 1) = q:=⟨_,rfl⟩
   have HQ:=Lib.hid hq
   clear hq
   go_upto_region 4 with (fail)
   go_cut [18] (fun q18 wx => q18 = .bool q ∧ wx = W2)
   case first =>
    by_cases g1 : R = 65533
    ·have k1 : ((R : Int) == 65533) = true:=by simp; omega
     by_cases g2 : K = 1
     ·have k2 : ((K : Int) == 1) = true:=by simp; omega
      have hd : Hid (q = true):=HQ.out.symm.trans (decide_eq_true ⟨g1,g2⟩)
      clear g1 g2
      go_wp2_with fail
      all_goals (go_meet; exact ⟨by rw [hd.out],rfl⟩)
     ·have k2 : ((K : Int) == 1) = false:=by simp; omega
      have hd : Hid (q = false):=HQ.out.symm.trans (decide_eq_false (fun c => g2 c.2))
      clear g1 g2
      go_wp2_with fail
      all_goals (go_meet; exact ⟨by rw [hd.out],rfl⟩)
    ·have k1 : ((R : Int) == 65533) = false:=by simp; omega
     have hd : Hid (q = false):=HQ.out.symm.trans (decide_eq_false (fun c => g1 c.1))
     clear g1
     go_wp2_with fail
     all_goals (go_meet; exact ⟨by rw [hd.out],rfl⟩)
   case rest =>
    obtain ⟨rfl,rfl⟩:=hcut
    have HFIN : Hid (∀ v1 w2,InM H w.heap.size v1 (ds ++ [ru]) w w2 → (∃ (t_1 : ByteArray) (ds_1 : List Int),Value.string (t.extract K t.size) = .string t_1 ∧ Hid (InM H w.heap.size v1 ds_1 w w2) ∧ Hid (ptS s = ds_1 ++ ptS t_1) ∧ t_1.size ≤ s.size ∧ ds_1.length + t_1.size ≤ s.size)):=fun v1 w2 CA => ⟨t.extract K t.size,ds ++ [ru],rfl,CA,(by
      show _ = _
      rw [← HRE.out,List.append_assoc,List.singleton_append,← HST.out]; exact hpt.out),by rw [← HRE.out]; have:=HRZ.out; omega,by rw [← HRE.out]; have:=HRZ.out; simp only [List.length_append,List.length_singleton]; omega⟩
    have HMEA : Hid ((t.extract K t.size).size < t.size):=by rw [← HRE.out]; exact HRZ.out.1
    generalize hv2 : Value.slice A ds.length cap = v2 at C2
    have HOr:=Lib.hid C2.out.row
    have HSA:=Lib.hid (fun v' W' o g1 at1 => C2.out.app (v':=v') (W':=W') (ds':=ds ++ [ru]) o g1 at1)
    have hB9:=C2.out.le
    cases q with
    | true =>
     have hrt : ru = (-1 : Int) - (((t[0]'h0).toNat : Nat) : Int):=by
      rw [HRU.out,if_pos (of_decide_eq_true HQ.out),rune_head h0]
     obtain ⟨w1,w2⟩:=byte_wrap64 (t[0]'h0)
     have HR2:=Lib.hid hrt
     have HW1:=Lib.hid w1
     have HW2:=Lib.hid w2
     clear hrt HQ w2
     go_wp2_with (at_builtin; refine wpList_app_at rfl _ _ 22 rfl w.heap.size 3 i0 (.int .i64 0) 1 8 Tryz.underlying22 hi0 hz0 hz1 hz2 rfl (by decide) fI _ ds rfl HOr.out ru #[.int .i64 (wrap64 (-1 - (((t[0]'h0).toNat : Nat) : Int)))] 3 rfl (congrArg (fun z : Int => [Value.int .i64 z]) (HR2.out.trans HW2.out.symm)) (by simp [Value.oneCell']) (by omega) (by omega) hB9 ?_; intro v1 w2 o1 g1 b1 at1; have CA:=Lib.hid (HSA.out v1 w2 o1 g1 at1); clear o1 g1 b1 at1 HSA HOr)
     go_roundw
     case rel => exact HFIN.out _ _ CA.out
     case measure => exact HMEA.out
    | false =>
     have hrt : ru = R:=by rw [HRU.out,if_neg (of_decide_eq_false HQ.out)]
     have HR2:=Lib.hid hrt
     clear hrt HQ
     go_wp2_with (at_builtin; refine wpList_app_at rfl _ _ 22 rfl w.heap.size 3 i0 (.int .i64 0) 1 8 Tryz.underlying22 hi0 hz0 hz1 hz2 rfl (by decide) fI _ ds rfl HOr.out ru #[.int .i64 (R : Int)] 3 rfl (congrArg (fun z : Int => [Value.int .i64 z]) HR2.out) (by simp [Value.oneCell']) (by omega) (by omega) hB9 ?_; intro v1 w2 o1 g1 b1 at1; have CA:=Lib.hid (HSA.out v1 w2 o1 g1 at1); clear o1 g1 b1 at1 HSA HOr)
     go_roundw
     case rel => exact HFIN.out _ _ CA.out
     case measure => exact HMEA.out
open Go.RowKit
theorem dropWhile_nil {p : UInt8 → Bool} {l : List UInt8} : l.dropWhile p = [] ↔ l.all p = true:=by
 induction l with
 | nil => simp
 | cons a l ih => by_cases h : p a = true <;> simp [h,ih]
theorem trimS_nil (l cs : List UInt8) : Lib.trimS l cs = [] ↔ l.all (cs.contains ·) = true:=by
 unfold Lib.trimS Lib.trimLeftS Lib.trimRightS
 rw [dropWhile_nil,List.all_reverse]
 constructor
 ·intro h
  have h1 : l.reverse.dropWhile (cs.contains ·) = []:=by
   cases e : l.reverse.dropWhile (cs.contains ·) with
   | nil => rfl
   | cons a t =>
    rw [e] at h
    have h2:=List.head?_dropWhile_not (cs.contains ·) l.reverse
    rw [e] at h2
    simp at h2 h
    exact absurd h.1 h2
  rw [dropWhile_nil,List.all_reverse] at h1
  exact h1
 ·intro h
  have h1 : l.reverse.dropWhile (cs.contains ·) = []:=by rw [dropWhile_nil,List.all_reverse]; exact h
  rw [h1]
  rfl
def smalls : ByteArray:=⟨#[97,98,99,100,101,102,103,104,105,106,107,108,109,110,111,112,113,114,115,116,117,118,119,120,121,122]⟩
def keySigns : ByteArray:=⟨#[97,98,99,100,101,102,103,104,105,106,107,108,109,110,111,112,113,114,115,116,117,118,119,120,121,122,48,49,50,51,52,53,54,55,56,57,45,95]⟩
theorem small_in (c : UInt8) : smalls.data.toList.contains c = smallB c:=by
 have : ∀ n : Fin 256,smalls.data.toList.contains (UInt8.ofNat n.val) = smallB (UInt8.ofNat n.val):=by decide +kernel
 have h:=this ⟨c.toNat,c.toNat_lt⟩
 simpa using h
theorem key_in (c : UInt8) : keySigns.data.toList.contains c = keyC c:=by
 have : ∀ n : Fin 256,keySigns.data.toList.contains (UInt8.ofNat n.val) = keyC (UInt8.ofNat n.val):=by decide +kernel
 have h:=this ⟨c.toNat,c.toNat_lt⟩
 simpa using h
set_option maxHeartbeats 400000 in
theorem in_any (n l h : Int) (w : World) : Calls Tryz.prog 148 #[.int .i64 n,.int .i64 l,.int .i64 h] w fun e w' => e = .returned (.bool (decide (l ≤ n) && decide (n ≤ h))) ∧ w = w':=by
 by_cases h1 : l ≤ n
 ·go_enter Tryz.func148,Tryz.ntmps148
  go_wp2
  go_ret
  exact ⟨by simp [h1],rfl⟩
 ·go_enter Tryz.func148,Tryz.ntmps148
  go_wp2
  go_ret
  exact ⟨by simp; omega,rfl⟩
def onlyB (s cut : ByteArray) : Bool:=s.data.toList.all (cut.data.toList.contains ·)
set_option maxHeartbeats 400000 in
theorem only_any (s cut : ByteArray) (w : World) (hs : s.size ≤ 1000000000) (hcs : cut.size < 1000) (hascii : ∀ (j : Nat) b,cut.data.toList[j]? = some b → b.toNat < 128) :
  Calls Tryz.prog 260 #[.string s,.string cut] w fun e w' => e = .returned (.bool (onlyB s cut)) ∧ Below w.heap.size w w':=by
 have HT:=Lib.hid (Any.strings_Trim_laid Tryz.lays160 (by kernel_rfl) s cut w (by omega) (by omega) hascii)
 have hv : Hid ((ByteArray.mk (Lib.trimS s.data.toList cut.data.toList).toArray).toList = [] ↔ onlyB s cut = true):=by
  show _ ↔ _
  rw [ByteArray.toList_eq]
  exact trimS_nil _ _
 clear hascii
 go_enter Tryz.func260,Tryz.ntmps260
 go_wp2_with fail
 refine HT.out.mono ?_
 rintro e w1 ⟨rfl,hb⟩
 generalize ByteArray.mk (Lib.trimS s.data.toList cut.data.toList).toArray = X at hv
 have HB:=Lib.hid hb
 clear hb HT
 by_cases hX : X.toList = []
 ·have h1 : X.toList.isEmpty = true:=by rw [hX]; rfl
  have hr:=Lib.hid (hv.out.1 hX)
  have HX:=Lib.hid hX
  clear hX
  go_wp2_with fail
  go_ret
  exact ⟨ret_bool' hr.out.symm,HB.out⟩
 ·have h1 : X.toList.isEmpty = false:=by cases e : X.toList with | nil => exact absurd e hX | cons a l => rfl
  have hr : Hid (onlyB s cut = false):=by
   show _ = _
   cases e : onlyB s cut with
   | false => rfl
   | true => exact absurd (hv.out.2 e) hX
  clear hX
  go_wp2_with fail
  go_ret
  exact ⟨ret_bool' hr.out.symm,HB.out⟩
theorem ascii_of (cut : ByteArray) (h : (cut.data.toList.all fun b => decide (b.toNat < 128)) = true) : ∀ (j : Nat) b,cut.data.toList[j]? = some b → b.toNat < 128:=fun j b hb => by
 have:=List.all_eq_true.1 h b (List.mem_of_getElem? hb)
 simpa using this
set_option maxHeartbeats 1000000 in
theorem Key_any (s : ByteArray) (w : World) (hs : s.size ≤ 1000000000) :
  Calls Tryz.prog 217 #[.string s] w fun e w' => e = .returned (.bool (isKey s)) ∧ Below w.heap.size w w':=by
 by_cases h1 : 1 ≤ s.size ∧ s.size ≤ 40
 ·have h2 : (decide ((1 : Int) ≤ (s.size : Int)) && decide ((s.size : Int) ≤ 40)) = true:=by simp; omega
  have h0 : 0 < s.size:=by omega
  have H2:=Lib.hid h2
  have hh : Hid (isKey s = (onlyB (s.extract 0 1) smalls && onlyB s keySigns)):=by
   show _ = _
   have e1 : s.data.toList.head? = some s[0]:=by
    rw [List.head?_eq_getElem?,List.getElem?_eq_getElem (by simpa using h0)]; rfl
   have e2 : (s.extract 0 1).data.toList = [s[0]]:=by
    rw [ByteArray.data_extract]
    have : s.data.toList.length = s.size:=by simp
    simp [Array.toList_extract,List.take_one,e1]
   unfold isKey onlyB
   rw [e1,e2,decide_eq_true h1]
   simp only [List.all_cons,List.all_nil,Bool.and_true,Option.map_some,Option.getD_some,Bool.true_and,small_in]
   congr 1
   unfold allB
   apply List.all_congr rfl
   intro c
   exact (key_in c).symm
  have hsz1 : (s.extract 0 1).size ≤ 1000000000:=by simp; omega
  clear h2
  go_enter Tryz.func217,Tryz.ntmps217
  go_wp2_with fail
  refine (in_any _ _ _ _).mono ?_
  rintro e w' ⟨rfl,rfl⟩
  rw [H2.out]
  go_wp2_with fail
  refine (only_any (s.extract 0 1) _ w hsz1 (by decide) (ascii_of _ (by decide))).mono ?_
  rintro e w1 ⟨rfl,hb1⟩
  have HB1:=Lib.hid hb1
  clear hb1
  generalize hq : onlyB (s.extract 0 1) _ = q
  have hq' : Hid (isKey s = (q && onlyB s keySigns)):=by rw [← hq]; exact hh
  clear hq hh
  cases q with
  | false =>
   go_wp2_with fail
   go_ret
   exact ⟨ret_bool' (hq'.out.trans (Bool.false_and _)).symm,HB1.out⟩
  | true =>
   go_wp2_with fail
   refine (only_any s _ w1 hs (by decide) (ascii_of _ (by decide))).mono ?_
   rintro e w2 ⟨rfl,hb2⟩
   have HB2:=Lib.hid (HB1.out.trans (hb2.mono HB1.out.size))
   clear hb2
   generalize hp : onlyB s _ = p
   have hp' : Hid (isKey s = p):=by show _ = _; rw [← hp,hq'.out,Bool.true_and]; rfl
   clear hp hq'
   go_wp2_with fail
   go_ret
   exact ⟨ret_bool' hp'.out.symm,HB2.out⟩
 ·have h2 : (decide ((1 : Int) ≤ (s.size : Int)) && decide ((s.size : Int) ≤ 40)) = false:=by simp; omega
  have H2:=Lib.hid h2
  have hh : Hid (isKey s = false):=by show _ = _; unfold isKey; rw [decide_eq_false h1]; rfl
  clear h2
  go_enter Tryz.func217,Tryz.ntmps217
  go_wp2_with fail
  refine (in_any _ _ _ _).mono ?_
  rintro e w' ⟨rfl,rfl⟩
  rw [H2.out]
  go_wp2_with fail
  go_ret
  exact ⟨ret_bool' hh.out.symm,Below.refl _ _⟩
open Go.RowKit
def sgW (l : List UInt8) (j : Nat) : Int:=if (l.length - j) % 2 = 1 then 2 else 1
def sgT (l : List UInt8) (j : Nat) : Int:=sgW l j * Lib.indexByte signs (l.getD j 0) / 36 + sgW l j * Lib.indexByte signs (l.getD j 0) % 36
def sgS (l : List UInt8) : Nat → Int
 | 0 => 0
 | i + 1 => sgS l i + sgT l i
theorem signSum_w (l : List UInt8) : ∀ n,(signSum l n).2 = if n % 2 = 0 then 2 else 1
 | 0 => rfl
 | n + 1 => by
  rw [signSum_succ]
  simp only
  rw [signSum_w l n]
  split <;> split <;> omega
theorem sg_eq (l : List UInt8) : ∀ n,n ≤ l.length → sgS l l.length = sgS l (l.length - n) + (signSum l n).1
 | 0,_ => by simp [signSum]
 | n + 1,h => by
  rw [sg_eq l n (by omega),signSum_succ]
  simp only
  have e : l.length - n = (l.length - 1 - n) + 1:=by omega
  rw [e]
  have e2 : l.length - (n + 1) = l.length - 1 - n:=by omega
  rw [e2]
  show sgS l (l.length - 1 - n) + sgT l (l.length - 1 - n) + _ = _
  have hw : (signSum l n).2 = sgW l (l.length - 1 - n):=by
   rw [signSum_w]
   unfold sgW
   split <;> split <;> omega
  rw [hw]
  unfold sgT
  omega
theorem sg_all (l : List UInt8) : sgS l l.length = (signSum l l.length).1:=by
 rw [sg_eq l l.length (Nat.le_refl _),Nat.sub_self]
 simp [sgS]
theorem sgT_bd {l : List UInt8} (h : ∀ c ∈ l,memC c = true) {j : Nat} (hj : j < l.length) : 0 ≤ sgT l j ∧ sgT l j ≤ 40:=by
 have hm : l.getD j 0 ∈ l:=by
  rw [List.getD_eq_getElem?_getD,List.getElem?_eq_getElem hj]
  exact List.getElem_mem hj
 have hb:=sign_bd (h _ hm)
 unfold sgT sgW
 generalize Lib.indexByte signs (l.getD j 0) = x at *
 split <;> omega
theorem sgS_bd {l : List UInt8} (h : ∀ c ∈ l,memC c = true) : ∀ i,i ≤ l.length → 0 ≤ sgS l i ∧ sgS l i ≤ 40 * i
 | 0,_ => by simp [sgS]
 | i + 1,hi => by
  have h1:=sgS_bd h i (by omega)
  have h2:=sgT_bd h (show i < l.length by omega)
  show 0 ≤ sgS l i + sgT l i ∧ sgS l i + sgT l i ≤ _
  omega
def refSign (s : ByteArray) : Nat:=((36 - (signSum s.data.toList s.size).1 % 36) % 36).toNat
set_option maxHeartbeats 4000000 in
set_option maxRecDepth 100000 in
theorem refSign_any (s : ByteArray) (w : World) (hs : s.size ≤ 1000) (hc : ∀ c ∈ s.data.toList,memC c = true) : Calls Tryz.prog 262 #[.string s] w fun e w' => e = .returned (.int .i64 (refSign s)) ∧ w = w':=by
 have HC:=Lib.hid hc
 have hzl : s.data.toList.length = s.size:=by simp
 have HBD:=Lib.hid (fun i (h : i ≤ s.size) => sgS_bd hc i (by omega))
 have HZL:=Lib.hid hzl
 have HALL:=Lib.hid (sg_all s.data.toList)
 rw [hzl] at HALL
 clear hc hzl
 go_enter Tryz.func262,Tryz.ntmps262
 go_wp2_with fail
 go_loop [3,9] (fun a t => ∃ i : Nat,i ≤ s.size ∧ t = .int .i64 i ∧ a = .int .i64 (sgS s.data.toList i)) (fun _ t => s.size - (intOf t).toNat)
 case atStart => exact ⟨0,by omega,rfl,rfl⟩
 case round =>
  obtain ⟨i,hi,rfl,rfl⟩:=hrel
  obtain ⟨b1,b2⟩:=HBD.out i hi
  by_cases hlt : i < s.size
  ·have hmem : s[i] ∈ s.data.toList:=by show s.data[i] ∈ _; simp
   have hb:=sign_bd (HC.out _ hmem)
   have hgd : s.data.toList.getD i 0 = s[i]:=by
    rw [List.getD_eq_getElem?_getD,List.getElem?_eq_getElem (by rw [HZL.out]; exact hlt)]; rfl
   have HNX : Hid (sgS s.data.toList (i + 1) = sgS s.data.toList i + ((if (s.size - i) % 2 = 1 then 2 else 1) * Lib.indexByte signs s[i] / 36 + (if (s.size - i) % 2 = 1 then 2 else 1) * Lib.indexByte signs s[i] % 36)):=by
    show sgS s.data.toList i + sgT s.data.toList i = _
    unfold sgT sgW
    rw [hgd,HZL.out]
   generalize sgS s.data.toList i = su at *
   clear hmem hgd
   go_wp2_with fail
   refine (idxSign_any s[i] _).mono ?_
   rintro e w' ⟨rfl,rfl⟩
   generalize Lib.indexByte signs s[i] = x at HNX hb
   have hx0:=hb.1
   have hx1:=hb.2
   clear hb
   obtain ⟨r,hr⟩ : ∃ r : Nat,(s.size : Int) - (i : Int) = (r : Int):=⟨s.size - i,by omega⟩
   have hri : s.size - i = r:=by omega
   rw [hri] at HNX
   have hw1 : IntKind.i64.wrap ((s.size : Int) - (i : Int)) = (r : Int):=by rw [hr]; exact IntWalk.i64_in _ (by omega)
   have HRI:=Lib.hid hri
   have HR:=Lib.hid hr
   clear hri
   by_cases hp : r % 2 = 1
   ·have hk : ((r : Int) % 2 == 1) = true:=by simp; omega
    rw [if_pos hp] at HNX
    clear hp
    go_wp2_with fail
    go_round
    case rel => exact ⟨i + 1,by omega,by go_num,by rw [HNX.out,Int.mul_comm 2 x]⟩
    case measure => simp [intOf]; omega
   ·have hk : ((r : Int) % 2 == 1) = false:=by simp; omega
    rw [if_neg hp] at HNX
    clear hp
    go_wp2_with fail
    go_round
    case rel => exact ⟨i + 1,by omega,by go_num,by rw [HNX.out,Int.one_mul]⟩
    case measure => simp [intOf]; omega
  ·have hie : i = s.size:=by omega
   subst hie
   have hall:=HALL.out
   obtain ⟨c0,hc0⟩ : ∃ c0 : Nat,refSign s = c0:=⟨_,rfl⟩
   have hc1 : (c0 : Int) = (36 - sgS s.data.toList s.size % 36) % 36:=by
    rw [← hc0,hall]
    unfold refSign
    omega
   have HC0:=Lib.hid hc0
   generalize sgS s.data.toList s.size = su at *
   have hc36 : c0 < 36:=by omega
   have hz : (su + (c0 : Int)) % 36 = 0:=by omega
   have hfst : ∀ j : Nat,j < c0 → (su + (j : Int)) % 36 ≠ 0:=fun j hj => by omega
   have HFST:=Lib.hid hfst
   have HZ:=Lib.hid hz
   clear hall hc0 hc1 hz hfst HALL
   go_wp2_with fail
   go_loop [32] (fun t => ∃ j : Nat,j ≤ c0 ∧ t = .int .i64 j) (fun t => 36 - (intOf t).toNat)
   case atStart => exact ⟨0,by omega,rfl⟩
   case round =>
    obtain ⟨j,hj,rfl⟩:=hrel
    by_cases hjc : j < c0
    ·have hk : ((su + (j : Int)) % 36 == 0) = false:=by simpa using HFST.out j hjc
     go_wp2_with fail
     go_round
     case rel => exact ⟨j + 1,by omega,by go_num⟩
     case measure => simp [intOf]; omega
    ·have hje : j = c0:=by omega
     subst hje
     have hk : ((su + (j : Int)) % 36 == 0) = true:=by simpa using HZ.out
     go_wp2_with fail
     go_ret
     exact ⟨ret_int (by rw [HC0.out]),rfl⟩
open Go.RowKit
theorem trim_ends {l : List UInt8} {c : UInt8} (h : Lib.trimB l c = l) : l.head? ≠ some c ∧ l.getLast? ≠ some c:=by
 unfold Lib.trimB Lib.trimRightB Lib.trimLeftB at h
 constructor
 ·intro e
  have h2:=List.head?_dropWhile_not (fun x => x == c) (l.reverse.dropWhile (fun x => x == c)).reverse
  rw [h] at h2
  rw [e] at h2
  simp at h2
 ·intro e
  have h1 : l.reverse.head? = some c:=by rw [List.head?_reverse]; exact e
  have h3 : (l.reverse.dropWhile (fun x => x == c)).length < l.length:=by
   cases hr : l.reverse with
   | nil => rw [hr] at h1; cases h1
   | cons a t =>
    rw [hr] at h1
    have ea : a = c:=by simpa using h1
    have hl : l.length = t.length + 1:=by rw [← List.length_reverse,hr]; simp
    rw [List.dropWhile_cons_of_pos (by simp [ea])]
    have:=(List.dropWhile_sublist (fun x => x == c) (l:=t)).length_le
    omega
  have h4:=(List.dropWhile_sublist (fun x => x == c) (l:=(l.reverse.dropWhile (fun x => x == c)).reverse)).length_le
  rw [h,List.length_reverse] at h4
  omega
theorem head_byte {s : ByteArray} {c : UInt8} (h0 : 0 < s.size) (h : s.data.toList.head? ≠ some c) : byteAt s 0 ≠ (c.toNat : Int):=by
 intro e
 apply h
 have hz : s.data.toList.length = s.size:=by simp
 unfold byteAt at e
 rw [List.getD_eq_getElem?_getD,List.getElem?_eq_getElem (by omega),Option.getD_some] at e
 rw [List.head?_eq_getElem?,List.getElem?_eq_getElem (by omega)]
 exact congrArg some (UInt8.toNat_inj.1 (Int.ofNat_inj.1 e))
theorem last_byte {s : ByteArray} {c : UInt8} (h0 : 0 < s.size) (h : s.data.toList.getLast? ≠ some c) : byteAt s (s.size - 1) ≠ (c.toNat : Int):=by
 intro e
 apply h
 have hz : s.data.toList.length = s.size:=by simp
 unfold byteAt at e
 rw [List.getD_eq_getElem?_getD,List.getElem?_eq_getElem (by omega),Option.getD_some] at e
 rw [List.getLast?_eq_getElem?,hz,List.getElem?_eq_getElem (by omega)]
 exact congrArg some (UInt8.toNat_inj.1 (Int.ofNat_inj.1 e))
def mailSigns : ByteArray:=⟨#[97,98,99,100,101,102,103,104,105,106,107,108,109,110,111,112,113,114,115,116,117,118,119,120,121,122,48,49,50,51,52,53,54,55,56,57,46,45,95]⟩
def labSigns : ByteArray:=⟨#[97,98,99,100,101,102,103,104,105,106,107,108,109,110,111,112,113,114,115,116,117,118,119,120,121,122,48,49,50,51,52,53,54,55,56,57,45]⟩
def digSigns : ByteArray:=⟨#[48,49,50,51,52,53,54,55,56,57]⟩
def memSigns : ByteArray:=⟨#[48,49,50,51,52,53,54,55,56,57,65,66,67,68,69,70,71,72,73,74,75,76,77,78,79,80,81,82,83,84,85,86,87,88,89,90]⟩
def devSigns : ByteArray:=⟨#[48,49,50,51,52,53,54,55,56,57,97,98,99,100,101,102]⟩
theorem only_all {cut : ByteArray} {p : UInt8 → Bool} (h : ∀ n : Fin 256,cut.data.toList.contains (UInt8.ofNat n.val) = p (UInt8.ofNat n.val)) (s : ByteArray) : onlyB s cut = allB p s:=by
 unfold onlyB allB
 apply List.all_congr rfl
 intro c
 have:=h ⟨c.toNat,c.toNat_lt⟩
 simpa using this
theorem only_mail (s : ByteArray) : onlyB s mailSigns = allB mailC s:=only_all (by decide +kernel) s
theorem only_lab (s : ByteArray) : onlyB s labSigns = allB labC s:=only_all (by decide +kernel) s
theorem only_dig (s : ByteArray) : onlyB s digSigns = allB digitB s:=only_all (by decide +kernel) s
theorem only_mem (s : ByteArray) : onlyB s memSigns = allB memC s:=only_all (by decide +kernel) s
theorem only_dev (s : ByteArray) : onlyB s devSigns = allB devC s:=only_all (by decide +kernel) s
structure LabOk (x : ByteArray) : Prop where
 size : 1 ≤ x.size ∧ x.size ≤ 30
 all : allB labC x = true
 trim : Lib.trimB x.data.toList 45 = x.data.toList
theorem LabOk.f {x : ByteArray} (h : LabOk x) : labelF x = true:=by
 have h0 : 0 < x.size:=by have:=h.size; omega
 have h1 : byteAt x 0 ≠ 45:=head_byte h0 (trim_ends h.trim).1
 have h2 : byteAt x (x.size - 1) ≠ 45:=last_byte h0 (trim_ends h.trim).2
 unfold labelF
 rw [if_neg (Decidable.not_not.2 h.size),if_neg h1,if_neg h2]
 exact h.all
structure MailOk (s : ByteArray) : Prop where
 two : (Lib.cut s.data.toList [64]).2.2 = true
 size : s.size ≤ 80
 lsize : 1 ≤ (localF s).size ∧ (localF s).size ≤ 64
 all : allB mailC (localF s) = true
 trim : Lib.trimB (localF s).data.toList 46 = (localF s).data.toList
 dots : Lib.contains (localF s).data.toList [46,46] = false
 many : 2 ≤ (labelsF (domainF s)).length
theorem MailOk.f {s : ByteArray} (h : MailOk s) (hl : ∀ x ∈ labelsF (domainF s),LabOk x) : mailF s = true:=by
 have h0 : 0 < (localF s).size:=by have:=h.lsize; omega
 have h1 : byteAt (localF s) 0 ≠ 46:=head_byte h0 (trim_ends h.trim).1
 have h2 : byteAt (localF s) ((localF s).size - 1) ≠ 46:=last_byte h0 (trim_ends h.trim).2
 have h3 : (labelsF (domainF s)).all labelF = true:=List.all_eq_true.2 fun x hx => (hl x hx).f
 unfold mailF
 rw [if_neg (by rw [h.two]; simp),if_neg (by have:=h.size; omega),if_neg (Decidable.not_not.2 h.lsize),if_neg h1,if_neg h2,if_neg (by rw [h.dots]; simp),if_neg (by rw [h.all]; simp),if_neg (by rw [h3]; simp)]
 exact decide_eq_true h.many
theorem phone_ok {s : ByteArray} (h1 : Lib.hasPrefix s.data.toList [43] = true) (h2 : 8 ≤ s.size ∧ s.size ≤ 16) (h3 : allB digitB (s.extract 1 s.size) = true) (h4 : byteAt s 1 ≠ 48) : phoneF s = true:=by
 unfold phoneF
 rw [if_neg (by rw [h1]; simp),if_neg (Decidable.not_not.2 h2),if_neg (by rw [h3]; simp)]
 exact decide_eq_true h4
theorem trimc_any (s : ByteArray) (c : UInt8) (hc : c.toNat < 128) (w : World) (hs : s.size ≤ 1000000) : Calls Tryz.prog 91 #[.string s,.string ⟨#[c]⟩] w fun e w' => e = .returned (.string ⟨(Lib.trimB s.data.toList c).toArray⟩) ∧ Below w.heap.size w w':=by
 refine (Tryz.strings_Trim_one s c hc w (by omega)).mono ?_
 rintro e w' ⟨rfl,h⟩
 refine ⟨rfl,?_⟩
 rcases h with rfl | rfl
 ·exact Below.refl _ _
 ·exact (Below.refl _ _).drew
open Go.RowKit
def RefPost (w : World) (z0 : Int) (e : Ending) (w' : World) : Prop:=∃ z : Int,e = .returned (.int .i64 z) ∧ (z = 0 → z0 = 0) ∧ Below w.heap.size w w'
theorem RefPost.bad {w w' : World} {z0 z : Int} (hz : z ≠ 0) (hb : Below w.heap.size w w') : RefPost w z0 (.returned (.int .i64 z)) w':=⟨z,rfl,fun h => absurd h hz,hb⟩
theorem RefPost.good {w w' : World} {z0 : Int} (h : z0 = 0) (hb : Below w.heap.size w w') : RefPost w z0 (.returned (.int .i64 0)) w':=⟨0,rfl,fun _ => h,hb⟩
set_option maxHeartbeats 4000000 in
set_option maxRecDepth 100000 in
theorem refDev_any (s : ByteArray) (w : World) (hs : s.size ≤ 1000000) : Calls Tryz.prog 216 #[.agg #[.int .i64 4,.string s]] w (RefPost w (idErr 4 s)):=by
 have HB:=Lib.hid (new1 (w:=w) (.cells #[.int .i64 4,.string s] 55))
 have z0 : (w.alloc (.cells #[.int .i64 4,.string s] 55)).cell? ⟨w.heap.size,0,none⟩ = some (.int .i64 4):=newc 0 rfl
 have z1 : (w.alloc (.cells #[.int .i64 4,.string s] 55)).cell? ⟨w.heap.size,1,none⟩ = some (.string s):=newc 1 rfl
 go_enter Tryz.func216,Tryz.ntmps216
 by_cases h1 : s.size = 32
 ·have k1 : ((s.size : Int) == 32) = true:=by simp [h1]
  have HS:=Lib.hid h1
  clear h1
  go_wp2_with fail
  refine (only_any s devSigns _ (by omega) (by decide) (ascii_of _ (by decide))).mono ?_
  rintro e w1 ⟨rfl,hb1⟩
  rw [only_dev]
  have HB1:=Lib.hid (HB.out.trans (hb1.mono HB.out.size))
  clear hb1
  cases hq : allB devC s with
  | true =>
   have HF:=Lib.hid (RefPost.good (z0:=idErr 4 s) (by
    show (if deviceF s = true then (0 : Int) else 3) = 0
    have : deviceF s = true:=by unfold deviceF; rw [hq,HS.out]; rfl
    rw [if_pos this]) HB1.out)
   clear hq
   go_wp2_with fail
   go_ret
   exact HF.out
  | false =>
   have HF:=Lib.hid (RefPost.bad (z0:=idErr 4 s) (z:=3) (by omega) HB1.out)
   clear hq
   go_wp2_with fail
   go_ret
   exact HF.out
 ·have k1 : ((s.size : Int) == 32) = false:=by simp; omega
  have HF:=Lib.hid (RefPost.bad (z0:=idErr 4 s) (z:=3) (by omega) HB.out)
  clear h1
  go_wp2_with fail
  go_ret
  exact HF.out
set_option maxHeartbeats 4000000 in
set_option maxRecDepth 100000 in
theorem refOth_any (kind : Int) (hk : kind ≠ 1 ∧ kind ≠ 2 ∧ kind ≠ 3 ∧ kind ≠ 4) (s : ByteArray) (w : World) (hs : s.size ≤ 1000000) : Calls Tryz.prog 216 #[.agg #[.int .i64 kind,.string s]] w (RefPost w (idErr kind s)):=by
 have HB:=Lib.hid (new1 (w:=w) (.cells #[.int .i64 kind,.string s] 55))
 have z0 : (w.alloc (.cells #[.int .i64 kind,.string s] 55)).cell? ⟨w.heap.size,0,none⟩ = some (.int .i64 kind):=newc 0 rfl
 have z1 : (w.alloc (.cells #[.int .i64 kind,.string s] 55)).cell? ⟨w.heap.size,1,none⟩ = some (.string s):=newc 1 rfl
 have k1 : (kind == 1) = false:=by simpa using hk.1
 have k2 : (kind == 2) = false:=by simpa using hk.2.1
 have k3 : (kind == 3) = false:=by simpa using hk.2.2.1
 have k4 : (kind == 4) = false:=by simpa using hk.2.2.2
 have HF:=Lib.hid (RefPost.bad (z0:=idErr kind s) (z:=4) (by omega) HB.out)
 clear hk
 go_enter Tryz.func216,Tryz.ntmps216
 go_wp2_with fail
 go_ret
 exact HF.out
set_option maxHeartbeats 4000000 in
set_option maxRecDepth 100000 in
theorem refPho_any (s : ByteArray) (w : World) (hs : s.size ≤ 1000000) : Calls Tryz.prog 216 #[.agg #[.int .i64 2,.string s]] w (RefPost w (idErr 2 s)):=by
 have HB:=Lib.hid (new1 (w:=w) (.cells #[.int .i64 2,.string s] 55))
 have z0 : (w.alloc (.cells #[.int .i64 2,.string s] 55)).cell? ⟨w.heap.size,0,none⟩ = some (.int .i64 2):=newc 0 rfl
 have z1 : (w.alloc (.cells #[.int .i64 2,.string s] 55)).cell? ⟨w.heap.size,1,none⟩ = some (.string s):=newc 1 rfl
 have hz : s.data.toList.length = s.size:=by simp
 have HBAD:=Lib.hid (fun W (hW : Below w.heap.size w W) => RefPost.bad (z0:=idErr 2 s) (z:=3) (by omega) hW)
 go_enter Tryz.func216,Tryz.ntmps216
 go_wp2_with fail
 refine (Tryz.strings_CutPrefix s ⟨#[43]⟩ _).mono ?_
 rintro e w1 ⟨rfl,rfl⟩
 cases hp : Lib.hasPrefix s.data.toList [43] with
 | false =>
  have HF:=Lib.hid (HBAD.out _ HB.out)
  clear HBAD hp
  go_wp2_with fail
  go_ret
  exact HF.out
 | true =>
  have htp : (⟨(Lib.trimPrefix s.data.toList [43]).toArray⟩ : ByteArray) = s.extract 1 s.size:=by
   rw [ba_drop]
   unfold Lib.trimPrefix
   rw [hp]
   rfl
  rw [show (⟨#[43]⟩ : ByteArray).data.toList = [43] from rfl,htp]
  have hpos : 0 < s.size:=by
   apply Classical.byContradiction
   intro c
   have : s.data.toList = []:=List.eq_nil_of_length_eq_zero (by omega)
   rw [this] at hp
   cases hp
  have hns : (s.extract 1 s.size).size = s.size - 1:=by rw [ByteArray.size_extract]; omega
  have HNS:=Lib.hid hns
  have HOK : Hid (8 ≤ s.size ∧ s.size ≤ 16 → allB digitB (s.extract 1 s.size) = true → byteAt s 1 ≠ 48 → idErr 2 s = 0):=fun h2 h3 h4 => by
   show (if phoneF s = true then (0 : Int) else 3) = 0
   rw [if_pos (phone_ok hp h2 h3 h4)]
  have hby : 1 < s.size → byteAt s 1 = byteAt (s.extract 1 s.size) 0:=fun h => by
   unfold byteAt
   rw [ba_drop]
   simp [List.getD_eq_getElem?_getD]
  have HBY:=Lib.hid hby
  clear hp htp hby hns
  generalize s.extract 1 s.size = n at *
  go_wp2_with fail
  refine (in_any _ _ _ _).mono ?_
  rintro e w' ⟨rfl,rfl⟩
  by_cases g1 : 7 ≤ n.size ∧ n.size ≤ 15
  rotate_left
  ·have k1 : (decide ((7 : Int) ≤ (n.size : Int)) && decide ((n.size : Int) ≤ 15)) = false:=by simp; omega
   rw [k1]
   have HF:=Lib.hid (HBAD.out _ HB.out)
   clear g1 k1
   go_wp2_with fail
   go_ret
   exact HF.out
  have k1 : (decide ((7 : Int) ≤ (n.size : Int)) && decide ((n.size : Int) ≤ 15)) = true:=by simp; omega
  rw [k1]
  have hn0 : 0 < n.size:=by omega
  have hn9:=g1.2
  have h816 : 8 ≤ s.size ∧ s.size ≤ 16:=by have:=HNS.out; omega
  clear g1 k1
  go_wp2_with fail
  refine (only_any n digSigns _ (by omega) (by decide) (ascii_of _ (by decide))).mono ?_
  rintro e w2 ⟨rfl,hb2⟩
  rw [only_dig]
  have HB2:=Lib.hid (HB.out.trans (hb2.mono HB.out.size))
  clear hb2
  cases hq : allB digitB n with
  | false =>
   have HF:=Lib.hid (HBAD.out _ HB2.out)
   clear hq
   go_wp2_with fail
   go_ret
   exact HF.out
  | true =>
   have HQ:=Lib.hid hq
   have HB0:=Lib.hid (byteAt_eq hn0)
   clear hq
   by_cases g2 : (n[0].toNat : Int) = 48
   ·have k2 : ((n[0].toNat : Int) != 48) = false:=by simpa using g2
    have HF:=Lib.hid (HBAD.out _ HB2.out)
    clear g2
    go_wp2_with fail
    go_ret
    exact HF.out
   ·have k2 : ((n[0].toNat : Int) != 48) = true:=by simpa using g2
    have HF:=Lib.hid (RefPost.good (HOK.out h816 HQ.out (by rw [HBY.out (by omega),HB0.out]; exact g2)) HB2.out)
    clear g2
    go_wp2_with fail
    go_ret
    exact HF.out
set_option maxHeartbeats 4000000 in
set_option maxRecDepth 100000 in
theorem refMem_any (s : ByteArray) (w : World) (hs : s.size ≤ 1000000) : Calls Tryz.prog 216 #[.agg #[.int .i64 3,.string s]] w (RefPost w (idErr 3 s)):=by
 have HB:=Lib.hid (new1 (w:=w) (.cells #[.int .i64 3,.string s] 55))
 have z0 : (w.alloc (.cells #[.int .i64 3,.string s] 55)).cell? ⟨w.heap.size,0,none⟩ = some (.int .i64 3):=newc 0 rfl
 have z1 : (w.alloc (.cells #[.int .i64 3,.string s] 55)).cell? ⟨w.heap.size,1,none⟩ = some (.string s):=newc 1 rfl
 have HBAD:=Lib.hid (fun W (hW : Below w.heap.size w W) => RefPost.bad (z0:=idErr 3 s) (z:=3) (by omega) hW)
 have HSUM:=Lib.hid (fun W (hW : Below w.heap.size w W) => RefPost.bad (z0:=idErr 3 s) (z:=15) (by omega) hW)
 go_enter Tryz.func216,Tryz.ntmps216
 go_wp2_with fail
 refine (in_any _ _ _ _).mono ?_
 rintro e w' ⟨rfl,rfl⟩
 generalize w.alloc (.cells #[.int .i64 3,.string s] 55) = W1 at *
 by_cases g1 : 4 ≤ s.size ∧ s.size ≤ 20
 rotate_left
 ·have k1 : (decide ((4 : Int) ≤ (s.size : Int)) && decide ((s.size : Int) ≤ 20)) = false:=by simp; omega
  rw [k1]
  clear g1 k1
  go_upto_region 19 with (fail)
  (refine wp_region_det 15 139 (fun W => Below (W1).heap.size (W1) W) (by kernel_rfl) (by kernel_rfl) (by rfl) (Below.refl _ _).drew ?_; simp only [List.take_succ_cons,List.take_zero,List.drop_succ_cons,List.drop_zero])
  iterate 2 (refine detSeq_op rfl ?_ (fun W hW => ?_) ?_; rotate_left; (focus simp only [OpV]; go_simp; first | exact rfl | exact ⟨rfl,hW⟩))
  iterate 13 (refine detSeq_no (by kernel_rfl) ?_)
  refine detSeq_nil (fun W3 hW3 => ?_)
  have HF:=Lib.hid (HBAD.out _ (HB.out.trans (hW3.mono HB.out.size)))
  clear hW3
  go_wp2_with fail
  go_ret
  exact HF.out
 have k1 : (decide ((4 : Int) ≤ (s.size : Int)) && decide ((s.size : Int) ≤ 20)) = true:=by simp; omega
 rw [k1]
 clear k1
 go_wp2_with fail
 refine (only_any s memSigns _ (by omega) (by decide) (ascii_of _ (by decide))).mono ?_
 rintro e W2 ⟨rfl,hb2⟩
 rw [only_mem]
 have HB2:=Lib.hid (HB.out.trans (hb2.mono HB.out.size))
 clear hb2 z0 z1
 cases hq : allB memC s with
 | false =>
  clear hq
  go_upto_region 19 with (fail)
  (refine wp_region_det 15 139 (fun W => Below (W2).heap.size (W2) W) (by kernel_rfl) (by kernel_rfl) (by rfl) (Below.refl _ _).drew ?_; simp only [List.take_succ_cons,List.take_zero,List.drop_succ_cons,List.drop_zero])
  iterate 2 (refine detSeq_op rfl ?_ (fun W hW => ?_) ?_; rotate_left; (focus simp only [OpV]; go_simp; first | exact rfl | exact ⟨rfl,hW⟩))
  iterate 13 (refine detSeq_no (by kernel_rfl) ?_)
  refine detSeq_nil (fun W3 hW3 => ?_)
  have HF:=Lib.hid (HBAD.out _ (HB2.out.trans (hW3.mono HB2.out.size)))
  clear hW3
  go_wp2_with fail
  go_ret
  exact HF.out
 | true =>
  have hmf : memberF s = true:=by unfold memberF; rw [hq,decide_eq_true g1]; rfl
  have hall:=allB_mem hq
  have hz : s.data.toList.length = s.size:=by simp
  have hpd : (s.extract 0 (s.size - 1)).data.toList = s.data.toList.take (s.size - 1):=by
   rw [ByteArray.data_extract,Array.toList_extract]
   simp [List.extract]
  have hps : (s.extract 0 (s.size - 1)).size = s.size - 1:=by rw [ByteArray.size_extract]; omega
  have HCS:=Lib.hid (fun W => refSign_any (s.extract 0 (s.size - 1)) W (by rw [hps]; omega) (fun c hc => hall c (by rw [hpd] at hc; exact List.mem_of_mem_take hc)))
  obtain ⟨cs,hcs⟩ : ∃ cs,refSign (s.extract 0 (s.size - 1)) = cs:=⟨_,rfl⟩
  have hc36 : cs < 36:=by
   rw [← hcs]
   unfold refSign
   omega
  have HOK : Hid ((memSigns[cs]'(show cs < memSigns.size from hc36)).toNat = (byteAt s (s.size - 1)) → idErr 3 s = 0):=fun h => by
   show (if memberF s = false then (3 : Int) else if signF (s.extract 0 (s.size - 1)) ≠ byteAt s (s.size - 1) then 15 else 0) = 0
   rw [if_neg (by rw [hmf]; simp)]
   have hsf : signF (s.extract 0 (s.size - 1)) = ((memSigns[cs]'(show cs < memSigns.size from hc36)).toNat : Int):=by
    unfold signF
    unfold refSign at hcs
    rw [hcs,List.getD_eq_getElem?_getD,List.getElem?_eq_getElem (show cs < signs.length from hc36)]
    rfl
   rw [if_neg (by rw [hsf,h]; simp)]
  rw [hcs] at HCS
  obtain ⟨L,hL⟩ : ∃ L,s.size - 1 = L:=⟨_,rfl⟩
  have hl0 : L < s.size:=by omega
  have HBL:=Lib.hid (byteAt_eq hl0)
  rw [hL] at HCS HOK
  have a1 : IntKind.i64.wrap ((s.size : Int) - 1) = (L : Int):=by rw [show (s.size : Int) - 1 = (L : Int) by omega]; exact IntWalk.i64_in _ (by omega)
  have a2 : (s.size : Int) - 1 = (L : Int):=by omega
  have a7 : IntKind.i64.wrap (L : Int) = (L : Int):=IntWalk.i64_in _ (by omega)
  have a3 : (L : Int) ≤ s.size:=by omega
  have a4 : (0 : Int) ≤ (L : Int):=by omega
  have a5 : L ≤ s.size:=by omega
  have a6 : (cs : Int) < 36:=by omega
  clear hcs hq hmf hall hz hpd hps hL
  have HOK2 : Hid ((s[L].toNat : Int) = ((memSigns[cs]'(show cs < memSigns.size from hc36)).toNat : Int) → idErr 3 s = 0):=fun h => HOK.out (by rw [HBL.out,h])
  generalize hmc : (memSigns[cs]'(show cs < memSigns.size from hc36)) = mc at HOK2
  go_upto_region 19 with (fail)
  clear HOK HBL
  (refine wp_region_det 15 139 (fun W => Below (W2).heap.size (W2) W) (by kernel_rfl) (by kernel_rfl) (by rfl) (Below.refl _ _).drew ?_; simp only [List.take_succ_cons,List.take_zero,List.drop_succ_cons,List.drop_zero])
  iterate 2 (refine detSeq_op rfl ?_ (fun W hW => ?_) ?_; rotate_left; (focus simp only [OpV]; go_simp; first | exact rfl | exact ⟨rfl,hW⟩))
  iterate 3 (refine detSeq_yes (by kernel_rfl) ?_ (fun W hW => ?_) ?_; rotate_left; (focus simp only [OpV]; go_simp; first | exact rfl | exact ⟨rfl,hW⟩))
  (refine detSeq_yes (by kernel_rfl) (.int .i64 (L : Int)) (fun W hW => ?_) ?_; focus (simp only [OpV]; go_simp; first | exact rfl | exact ⟨rfl,hW⟩ | exact hW | trace_state))
  (refine detSeq_yes (by kernel_rfl) (.string (s.extract 0 L)) (fun W hW => ?_) ?_; focus (simp only [OpV]; go_simp; first | exact rfl | exact ⟨rfl,hW⟩ | exact hW | trace_state))
  (refine detSeq_yes (by kernel_rfl) (.int .i64 (cs : Int)) (fun W hW => ?_) ?_; focus (simp only [OpV]; go_simp; refine (HCS.out W).mono ?_; rintro e w' ⟨rfl,rfl⟩; exact ⟨_,rfl,rfl,hW⟩))
  (refine detSeq_yes (by kernel_rfl) (.int .u8 (mc.toNat : Int)) (fun W hW => ?_) ?_; focus (simp only [OpV]; go_simp; first | exact congrArg (fun c : UInt8 => (c.toNat : Int)) hmc | exact ⟨congrArg (fun c : UInt8 => (c.toNat : Int)) hmc,hW⟩))
  iterate 3 (refine detSeq_yes (by kernel_rfl) ?_ (fun W hW => ?_) ?_; rotate_left; (focus simp only [OpV]; go_simp; first | exact rfl | exact ⟨rfl,hW⟩))
  (refine detSeq_yes (by kernel_rfl) (.int .i64 (L : Int)) (fun W hW => ?_) ?_; focus (simp only [OpV]; go_simp; first | exact rfl | exact ⟨rfl,hW⟩ | exact hW | trace_state))
  (refine detSeq_yes (by kernel_rfl) (.int .u8 (s[L].toNat : Int)) (fun W hW => ?_) ?_; focus (simp only [OpV]; go_simp; first | exact rfl | exact ⟨rfl,hW⟩ | exact hW | trace_state))
  (refine detSeq_yes (by kernel_rfl) (.bool ((mc.toNat : Int) != (s[L].toNat : Int))) (fun W hW => ?_) ?_; focus (simp only [OpV]; go_simp; first | exact rfl | exact ⟨rfl,hW⟩ | exact hW | trace_state))
  refine detSeq_nil (fun W3 hW3 => ?_)
  have HB3:=Lib.hid (HB2.out.trans (hW3.mono HB2.out.size))
  clear hW3
  by_cases g2 : (s[L].toNat : Int) = (mc.toNat : Int)
  ·have k2 : ((mc.toNat : Int) != (s[L].toNat : Int)) = false:=by rw [g2]; simp
   have HF:=Lib.hid (RefPost.good (HOK2.out g2) HB3.out)
   rw [k2]
   clear g2 k2
   go_wp2_with fail
   go_ret
   exact HF.out
  ·have k2 : ((mc.toNat : Int) != (s[L].toNat : Int)) = true:=by simp; exact fun c => g2 c.symm
   have HF:=Lib.hid (HSUM.out _ HB3.out)
   rw [k2]
   clear g2 k2
   go_wp2_with fail
   go_ret
   exact HF.out
end Go.Proofs.YtbidhpgjmcedaaaGreatDoor
