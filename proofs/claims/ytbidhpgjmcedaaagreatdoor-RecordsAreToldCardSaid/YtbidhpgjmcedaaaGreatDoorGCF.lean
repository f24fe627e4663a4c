/- Texts of this claim, put together: DelP, IdxTd, DelTd, Surv. -/
import Derived.Test.YtbidhpgjmcedaaaGreatDoorGAB
import Derived.Test.YtbidhpgjmcedaaaGreatDoorGAC
import Derived.StillTailTactics
import Derived.Deep.Cut
import Derived.Test.YtbidhpgjmcedaaaGreatDoorGAS
import Derived.Test.YtbidhpgjmcedaaaGreatDoorGBY
import Derived.Test.YtbidhpgjmcedaaaGreatDoorGCE
namespace Go.Proofs.YtbidhpgjmcedaaaGreatDoor
set_option linter.unusedVariables false
open Go.RowKit
structure DelOk {D : Type} (p : D → Bool) (ds cur : List D) (i j : Nat) : Prop where
 len : cur.length = ds.length
 le : i < j
 lt : j ≤ ds.length
 low : cur.take i = (ds.take j).filter (fun d => !p d)
 high : cur.drop j = ds.drop j
section
variable {D : Type} {p : D → Bool} {ds cur : List D} {i j : Nat}
theorem DelOk.at_ (h : DelOk p ds cur i j) (hj : j < ds.length) : cur[j]'(by rw [h.len]; exact hj) = ds[j]:=by
 have e:=congrArg (fun l => l[0]?) h.high
 simp only [List.getElem?_drop,Nat.add_zero] at e
 rw [List.getElem?_eq_getElem (by rw [h.len]; exact hj),List.getElem?_eq_getElem hj] at e
 exact Option.some.inj e
theorem DelOk.drop (h : DelOk p ds cur i j) (hj : j < ds.length) (hp : p ds[j] = true) : DelOk p ds cur i (j + 1):=by
 refine ⟨h.len,by have:=h.le; omega,hj,?_,?_⟩
 ·rw [List.take_succ_eq_append_getElem hj,List.filter_append,h.low]
  simp [hp]
 ·rw [← List.drop_drop,h.high,List.drop_drop]
theorem DelOk.keep (h : DelOk p ds cur i j) (hj : j < ds.length) (hp : p ds[j] = false) : DelOk p ds (cur.set i ds[j]) (i + 1) (j + 1):=by
 have hle:=h.le
 have hl:=h.len
 refine ⟨by simp [hl],by omega,hj,?_,?_⟩
 ·rw [List.take_succ_eq_append_getElem (by simp; omega),List.take_set_of_le (Nat.le_refl _),h.low,List.take_succ_eq_append_getElem hj,List.filter_append]
  simp [hp]
 ·rw [List.drop_set_of_lt (by omega),← List.drop_drop,h.high,List.drop_drop]
theorem DelOk.done (h : DelOk p ds cur i ds.length) : cur.take i = ds.filter (fun d => !p d):=by rw [h.low,List.take_length]
theorem DelOk.start (hj : j < ds.length) (h : ∀ m (hm : m < j),p (ds[m]'(by omega)) = false) (hp : p ds[j] = true) : DelOk p ds ds j (j + 1):=by
 refine ⟨rfl,by omega,hj,?_,rfl⟩
 rw [List.take_succ_eq_append_getElem hj,List.filter_append]
 have : (ds.take j).filter (fun d => !p d) = ds.take j:=by
  rw [List.filter_eq_self]
  intro a ha
  obtain ⟨m,hm,rfl⟩:=List.getElem_of_mem ha
  simp only [List.length_take] at hm
  rw [List.getElem_take,h m (by omega)]
  rfl
 rw [this]
 simp [hp]
end
open Go.RowKit
section
variable {D : Type}
set_option maxHeartbeats 1000000 in
theorem indexFunc_Td (H : Frz) (f : D → Nat → Value) (kf : Nat) (caps : List Value) (p : D → Bool) (ds : List D) (hp : ∀ (W : World) (d : D),d ∈ ds → H.In W → Calls Tryz.prog kf ((.agg #[f d 0,f d 1,f d 2,f d 3,f d 4,f d 5,f d 6,f d 7] : Value) :: caps).toArray W fun e W' => e = .returned (.bool (p d)) ∧ Below W.heap.size W W')
  (hcall : ∀ (a : Value) (W : World),(callFunc kf (a :: caps).toArray).run Tryz.prog W = .ok (.enter kf (a :: caps).toArray) W)
  (A : Option Addr) (cap : Nat) (w : World) (hH : H.In w) (hR : Rw H A 8 f ds) (hl : ds.length ≤ 1000000) :
  Calls Tryz.prog 280 #[.slice A ds.length cap,.func (.func kf) #[] caps.toArray] w fun e w' => e = .returned (.int .i64 (idxF p ds)) ∧ Below w.heap.size w w':=by
 have HP:=Lib.hid hp
 have HR:=Lib.hid hR
 have HH:=Lib.hid hH
 clear hp hR hH
 go_enter Tryz.func280,Tryz.ntmps280
 go_wp2_with fail
 go_loopw [5,8] (fun _ t wr => ∃ i : Nat,i ≤ ds.length ∧ t = .int .i64 i ∧ Hid ((ds.take i).any p = false) ∧ Hid (Below w.heap.size w wr)) (fun _ t _ => ds.length - (intOf t).toNat)
 case atStart => exact ⟨0,by omega,rfl,rfl,Below.refl _ _⟩
 case round =>
  obtain ⟨i,hi,rfl,hall,hb⟩:=hrel
  by_cases hlt : i < ds.length
  ·obtain ⟨b,off,rfl,hbl,hc⟩:=HR.out.at_ (HH.out.below hb.out) hlt (by omega)
   have c0 : wr.cell? ⟨b,off + i * 8,none⟩ = some (f ds[i] 0):=hc 0 (by omega)
   have c1 : wr.cell? ⟨b,off + i * 8 + 1,none⟩ = some (f ds[i] 1):=hc 1 (by omega)
   have c2 : wr.cell? ⟨b,off + i * 8 + 2,none⟩ = some (f ds[i] 2):=hc 2 (by omega)
   have c3 : wr.cell? ⟨b,off + i * 8 + 3,none⟩ = some (f ds[i] 3):=hc 3 (by omega)
   have c4 : wr.cell? ⟨b,off + i * 8 + 4,none⟩ = some (f ds[i] 4):=hc 4 (by omega)
   have c5 : wr.cell? ⟨b,off + i * 8 + 5,none⟩ = some (f ds[i] 5):=hc 5 (by omega)
   have c6 : wr.cell? ⟨b,off + i * 8 + 6,none⟩ = some (f ds[i] 6):=hc 6 (by omega)
   have c7 : wr.cell? ⟨b,off + i * 8 + 7,none⟩ = some (f ds[i] 7):=hc 7 (by omega)
   have HC:=Lib.hid (fun W hW => HP.out W ds[i] (List.getElem_mem hlt) hW)
   have ht:=Lib.hid (idxF_found (p:=p) hlt hall.out)
   have ht2:=Lib.hid (any_take_succ (p:=p) hlt hall.out)
   clear hc
   generalize hpd : p ds[i] = q at HC ht ht2
   generalize f ds[i] 0 = x0 at c0 HC
   generalize f ds[i] 1 = x1 at c1 HC
   generalize f ds[i] 2 = x2 at c2 HC
   generalize f ds[i] 3 = x3 at c3 HC
   generalize f ds[i] 4 = x4 at c4 HC
   generalize f ds[i] 5 = x5 at c5 HC
   generalize f ds[i] 6 = x6 at c6 HC
   generalize f ds[i] 7 = x7 at c7 HC
   clear hpd
   go_wp2_with fail
   refine (HC.out _ (HH.out.below hb.out)).mono ?_
   rintro e w1 ⟨rfl,hb1⟩
   have hb2:=Lib.hid (hb.out.trans (hb1.mono hb.out.size))
   clear hb1 hb
   cases q with
   | true =>
    go_wp2_with fail
    go_ret
    exact ⟨ret_int (ht.out (by simp)).symm,hb2.out⟩
   | false =>
    go_wp2_with fail
    go_roundw
    case rel => exact ⟨i + 1,by omega,by go_num,ht2.out (by simp),hb2⟩
    case measure => simp [intOf]; omega
  ·have hf:=Lib.hid (idxF_none (p:=p) (show ds.any p = false by have:=hall.out; rwa [List.take_of_length_le (by omega)] at this))
   go_wp2_with fail
   go_ret
   exact ⟨ret_int hf.out.symm,hb.out⟩
set_option maxHeartbeats 1000000 in
theorem containsFunc_Td (H : Frz) (f : D → Nat → Value) (kf : Nat) (caps : List Value) (p : D → Bool) (ds : List D) (hp : ∀ (W : World) (d : D),d ∈ ds → H.In W → Calls Tryz.prog kf ((.agg #[f d 0,f d 1,f d 2,f d 3,f d 4,f d 5,f d 6,f d 7] : Value) :: caps).toArray W fun e W' => e = .returned (.bool (p d)) ∧ Below W.heap.size W W')
  (hcall : ∀ (a : Value) (W : World),(callFunc kf (a :: caps).toArray).run Tryz.prog W = .ok (.enter kf (a :: caps).toArray) W)
  (A : Option Addr) (cap : Nat) (w : World) (hH : H.In w) (hR : Rw H A 8 f ds) (hl : ds.length ≤ 1000000) :
  Calls Tryz.prog 245 #[.slice A ds.length cap,.func (.func kf) #[] caps.toArray] w fun e w' => e = .returned (.bool (anyF p ds)) ∧ Below w.heap.size w w':=by
 have HI:=Lib.hid (indexFunc_Td H f kf caps p ds hp hcall A cap w hH hR hl)
 have hx:=Lib.hid (idxF_any p ds)
 clear hp hR hH hcall
 go_enter Tryz.func245,Tryz.ntmps245
 go_wp2_with fail
 refine HI.out.mono ?_
 rintro e w1 ⟨rfl,hb⟩
 generalize idxF p ds = n at hx
 have HB:=Lib.hid hb
 clear hb
 go_wp2_with fail
 go_ret
 exact ⟨ret_bool' hx.out,HB.out⟩
end
open Go.RowKit
set_option maxHeartbeats 4000000 in
set_option maxRecDepth 100000 in
theorem deleteFunc_Td (H : Frz) (kf : Nat) (caps : List Value) (p : TdD → Bool) (ds : List TdD)
  (hp : ∀ (W : World) (d : TdD),d ∈ ds → H.In W → Calls Tryz.prog kf ((.agg #[.int .i64 d.no,.int .i64 d.at_,.string d.source,.slice d.ia d.il d.ic,.slice d.fa d.fl d.fc,.int .i64 d.kind,.string d.text,.int .i64 d.num] : Value) :: caps).toArray W fun e W' => e = .returned (.bool (p d)) ∧ Below W.heap.size W W')
  (hcall : ∀ (a : Value) (W : World),(callFunc kf (a :: caps).toArray).run Tryz.prog W = .ok (.enter kf (a :: caps).toArray) W)
  (B : Nat) (v : Value) (w : World) (hH : H.In w) (hO : Orow w B 167 8 fTd v ds) (hf : ∀ q,v.ownBlock = some q → H q = none) (hl : ds.length ≤ 100000) :
  Calls Tryz.prog 248 #[v,.func (.func kf) #[] caps.toArray] w fun e w' => (∃ v',e = .returned v' ∧ Orow w' B 167 8 fTd v' (ds.filter fun d => !p d) ∧ (v'.ownBlock = v.ownBlock)) ∧ w.grownBy w' v.ownBlock:=by
 obtain ⟨A,cap,H',hv,hle,p1,p2,hR,p3,p4⟩:=hO.freeze H
 subst hv
 have hin:=p1 hH
 have hle2:=p2 hf
 have hp' : ∀ (W : World) (d : TdD),d ∈ ds → H'.In W → Calls Tryz.prog kf ((.agg #[fTd d 0,fTd d 1,fTd d 2,fTd d 3,fTd d 4,fTd d 5,fTd d 6,fTd d 7] : Value) :: caps).toArray W fun e W' => e = .returned (.bool (p d)) ∧ Below W.heap.size W W':=fun W d hd hW => hp W d hd (hle2.in_ hW)
 have HIX:=Lib.hid (fun W (hW : H'.In W) => indexFunc_Td H' fTd kf caps p ds hp' hcall A cap W hW hR (by omega))
 have HO:=Lib.hid hO
 have HP:=Lib.hid hp
 rcases idxF_cases p ds with ⟨e0,hno⟩ | ⟨i,hi,e0,hpi⟩
 ·have HE:=Lib.hid e0
  go_enter Tryz.func248,Tryz.ntmps248
  have HIN:=Lib.hid hin
  clear hp hp' hO hf hR hH hin hle2 p1 p2 p3 p4 e0
  go_wp2_with fail
  refine (HIX.out w HIN.out).mono ?_
  rintro e w1 ⟨rfl,hb⟩
  rw [HE.out]
  have HF : Hid ((∃ v',Ending.returned (.slice A ds.length cap) = .returned v' ∧ Orow w1 B 167 8 fTd v' (ds.filter fun d => !p d) ∧ (v'.ownBlock = (Value.slice A ds.length cap).ownBlock)) ∧ w.grownBy w1 (Value.slice A ds.length cap).ownBlock):=by
   refine ⟨⟨_,rfl,?_,rfl⟩,⟨hb.os,hb.tape,hb.output,hb.size,fun k hk _ => hb.block k hk⟩⟩
   rw [List.filter_eq_self.2 (fun d hd => by rw [hno d hd]; rfl)]
   exact HO.out.below hb
  clear hb
  go_wp2_with fail
  go_ret
  exact HF.out
 ·have hbf : ∀ m (hm : m < i),p (ds[m]'(by omega)) = false:=by
   intro m hm
   unfold idxF at e0
   cases e : ds.findIdx? p with
   | none =>
    rw [e] at e0
    have : (-1 : Int) = (i : Int):=e0
    omega
   | some k =>
    rw [e] at e0
    have e1 : k = i:=by simp at e0; omega
    subst e1
    have:=(List.findIdx?_eq_some_iff_getElem.1 e).2.2 m hm
    simpa using this
  have hD0:=Lib.hid (DelOk.start hi hbf hpi)
  have HE:=Lib.hid e0
  have HIN:=Lib.hid hin
  have HH:=Lib.hid hH
  obtain ⟨g,cap2,rest,hv2,hlc,hBg,hg,hm,hk,hr⟩:=hO.form (fun c => by subst c; exact absurd hi (by simp))
  injection hv2 with e1 e2 e3
  subst e1 e3
  have hgn : H g = none:=hf g rfl
  have HKB:=Lib.hid hk
  have HRE:=Lib.hid hr
  clear hp hp' hO hf hR hH hin hle2 p1 p2 p3 p4 e0 hbf hpi hk hr e2 HO
  have hm1 : ((i : Int) == -1) = false:=by rw [beq_eq_false_iff_ne]; omega
  go_enter Tryz.func248,Tryz.ntmps248
  go_wp2_with fail
  refine (HIX.out w HIN.out).mono ?_
  rintro e w1 ⟨rfl,hb⟩
  rw [HE.out]
  have hK1:=Lib.hid (HKB.out.keep hb)
  have hG1 : Hid (w.grownBy w1 (some g)):=⟨hb.os,hb.tape,hb.output,hb.size,fun k hk _ => hb.block k hk⟩
  clear hb HIX HIN HKB
  go_wp2_with fail
  clear HE
  go_loopw [5,6,7] (fun t5 t6 _ wr => ∃ (i j : Nat) (cur : List TdD),t5 = .int .i64 i ∧ t6 = .int .i64 j ∧ Hid (DelOk p ds cur i j) ∧ Hid (KBlk wr g 167 8 fTd cur rest) ∧ Hid (w.grownBy wr (some g))) (fun _ t _ _ => ds.length - (intOf t).toNat)
  case atStart => exact ⟨i,i + 1,ds,rfl,by go_num,hD0,hK1,hG1⟩
  case round =>
   obtain ⟨i,j,cur,rfl,rfl,hD,hk,hG⟩:=hrel
   clear hD0 hK1 hG1
   by_cases hj : j < ds.length
   ·have hjc : j < cur.length:=by rw [hD.out.len]; exact hj
    have hcell:=hk.out.cell j
    have c0 : wr.cell? ⟨g,j * 8,none⟩ = some (fTd ds[j] 0):=by have:=hk.out.cell j 0 hjc (by omega); rw [hD.out.at_ hj] at this; exact this
    have c1 : wr.cell? ⟨g,j * 8 + 1,none⟩ = some (fTd ds[j] 1):=by have:=hk.out.cell j 1 hjc (by omega); rw [hD.out.at_ hj] at this; exact this
    have c2 : wr.cell? ⟨g,j * 8 + 2,none⟩ = some (fTd ds[j] 2):=by have:=hk.out.cell j 2 hjc (by omega); rw [hD.out.at_ hj] at this; exact this
    have c3 : wr.cell? ⟨g,j * 8 + 3,none⟩ = some (fTd ds[j] 3):=by have:=hk.out.cell j 3 hjc (by omega); rw [hD.out.at_ hj] at this; exact this
    have c4 : wr.cell? ⟨g,j * 8 + 4,none⟩ = some (fTd ds[j] 4):=by have:=hk.out.cell j 4 hjc (by omega); rw [hD.out.at_ hj] at this; exact this
    have c5 : wr.cell? ⟨g,j * 8 + 5,none⟩ = some (fTd ds[j] 5):=by have:=hk.out.cell j 5 hjc (by omega); rw [hD.out.at_ hj] at this; exact this
    have c6 : wr.cell? ⟨g,j * 8 + 6,none⟩ = some (fTd ds[j] 6):=by have:=hk.out.cell j 6 hjc (by omega); rw [hD.out.at_ hj] at this; exact this
    have c7 : wr.cell? ⟨g,j * 8 + 7,none⟩ = some (fTd ds[j] 7):=by have:=hk.out.cell j 7 hjc (by omega); rw [hD.out.at_ hj] at this; exact this
    clear hcell
    have hlen : cur.length = ds.length:=hD.out.len
    have hij:=hD.out.le
    have di : decide ((j : Int) < (ds.length : Int)) = true:=by simp; exact hj
    have HK:=Lib.hid (fun h => hD.out.keep hj h)
    have HDr:=Lib.hid (fun h => hD.out.drop hj h)
    have HC:=Lib.hid (fun W hW => HP.out W ds[j] (List.getElem_mem hj) hW)
    generalize hd : ds[j] = d at *
    generalize hpd : p d = q at *
    clear hd hpd
    simp only [fTd] at c0 c1 c2 c3 c4 c5 c6 c7
    have hcallj:=hcall (.agg #[.int .i64 d.no,.int .i64 d.at_,.string d.source,.slice d.ia d.il d.ic,.slice d.fa d.fl d.fc,.int .i64 d.kind,.string d.text,.int .i64 d.num])
    have HIN9:=Lib.hid ((HH.out.grown hG.out hgn).alloc (.cells #[.int .i64 d.no,.int .i64 d.at_,.string d.source,.slice d.ia d.il d.ic,.slice d.fa d.fl d.fc,.int .i64 d.kind,.string d.text,.int .i64 d.num] 167))
    have hb9 : Below wr.heap.size wr (wr.alloc (.cells #[.int .i64 d.no,.int .i64 d.at_,.string d.source,.slice d.ia d.il d.ic,.slice d.fa d.fl d.fc,.int .i64 d.kind,.string d.text,.int .i64 d.num] 167)):=(Below.refl _ _).alloc (Nat.le_refl _) _
    have hk9:=Lib.hid (hk.out.keep hb9)
    have hG9 : Hid (w.grownBy (wr.alloc (.cells #[.int .i64 d.no,.int .i64 d.at_,.string d.source,.slice d.ia d.il d.ic,.slice d.fa d.fl d.fc,.int .i64 d.kind,.string d.text,.int .i64 d.num] 167)) (some g)):=hG.out.trans ⟨hb9.os,hb9.tape,hb9.output,hb9.size,fun k hk _ => hb9.block k hk⟩
    have HX9 : Hid ((wr.alloc (.cells #[.int .i64 d.no,.int .i64 d.at_,.string d.source,.slice d.ia d.il d.ic,.slice d.fa d.fl d.fc,.int .i64 d.kind,.string d.text,.int .i64 d.num] 167)).heap[wr.heap.size]? = some (.cells #[.int .i64 d.no,.int .i64 d.at_,.string d.source,.slice d.ia d.il d.ic,.slice d.fa d.fl d.fc,.int .i64 d.kind,.string d.text,.int .i64 d.num] 167)):=heap_alloc_new _ _
    clear hb9
    go_wp2_with fail
    refine (HC.out _ (HIN9.out)).mono ?_
    rintro e w2 ⟨rfl,hb⟩
    have hk2:=hk9.out.keep hb
    have hG2 : Hid (w.grownBy w2 (some g)):=hG9.out.trans ⟨hb.os,hb.tape,hb.output,hb.size,fun k hk _ => hb.block k hk⟩
    have hx:=(hb.block _ (lt_of_heap HX9.out)).trans HX9.out
    have hin2:=HIN9.out.below hb
    have x0 : w2.cell? ⟨wr.heap.size,0,none⟩ = some (.int .i64 d.no):=cell_h hx 0 rfl
    have x1 : w2.cell? ⟨wr.heap.size,1,none⟩ = some (.int .i64 d.at_):=cell_h hx 1 rfl
    have x2 : w2.cell? ⟨wr.heap.size,2,none⟩ = some (.string d.source):=cell_h hx 2 rfl
    have x3 : w2.cell? ⟨wr.heap.size,3,none⟩ = some (.slice d.ia d.il d.ic):=cell_h hx 3 rfl
    have x4 : w2.cell? ⟨wr.heap.size,4,none⟩ = some (.slice d.fa d.fl d.fc):=cell_h hx 4 rfl
    have x5 : w2.cell? ⟨wr.heap.size,5,none⟩ = some (.int .i64 d.kind):=cell_h hx 5 rfl
    have x6 : w2.cell? ⟨wr.heap.size,6,none⟩ = some (.string d.text):=cell_h hx 6 rfl
    have x7 : w2.cell? ⟨wr.heap.size,7,none⟩ = some (.int .i64 d.num):=cell_h hx 7 rfl
    clear hb hx c0 c1 c2 c3 c4 c5 c6 c7 hk hG hk9 hG9 HX9 HIN9
    cases q with
    | true =>
     have hD2:=Lib.hid (HDr.out rfl)
     have HK2:=Lib.hid hk2
     clear HDr HK hk2 hin2 hcallj
     go_wp2_with fail
     go_roundw
     case rel => exact ⟨i,j + 1,cur,rfl,by go_num,hD2,HK2,hG2⟩
     case measure => simp [intOf]; omega
    | false =>
     have hic : i < cur.length:=by omega
     have hD2:=Lib.hid (HK.out rfl)
     have HKP:=Lib.hid (hk2.put i hic d)
     have HGP:=Lib.hid (setK_grown (i * 8) ((List.range 8).map (fTd d)) hG2.out)
     have r0:=hk2.cell i 0 hic (by omega)
     have s0:=hk2.frozen (i * 8)
     have r1:=hk2.cell i 1 hic (by omega)
     have s1:=hk2.frozen (i * 8 + 1)
     have r2:=hk2.cell i 2 hic (by omega)
     have s2:=hk2.frozen (i * 8 + 2)
     have r3:=hk2.cell i 3 hic (by omega)
     have s3:=hk2.frozen (i * 8 + 3)
     have r4:=hk2.cell i 4 hic (by omega)
     have s4:=hk2.frozen (i * 8 + 4)
     have r5:=hk2.cell i 5 hic (by omega)
     have s5:=hk2.frozen (i * 8 + 5)
     have r6:=hk2.cell i 6 hic (by omega)
     have s6:=hk2.frozen (i * 8 + 6)
     have r7:=hk2.cell i 7 hic (by omega)
     have s7:=hk2.frozen (i * 8 + 7)
     simp only [Nat.add_zero] at r0
     clear HDr HK hk2 hin2 hcallj hG2
     go_wp2_with fail
     go_roundw
     case rel => exact ⟨i + 1,j + 1,cur.set i d,by go_num,by go_num,hD2,HKP,HGP⟩
     case measure => simp [intOf]; omega
   ·have hje : j = ds.length:=by have:=hD.out.lt; omega
    subst hje
    have hlen : cur.length = ds.length:=hD.out.len
    have hij:=hD.out.le
    have hdone:=Lib.hid hD.out.done
    obtain ⟨z0,hz0⟩ : ∃ z : Value,z = .agg #[.int .i64 0,.int .i64 0,.string ⟨#[]⟩,.slice none 0 0,.slice none 0 0,.int .i64 0,.string ⟨#[]⟩,.int .i64 0]:=⟨_,rfl⟩
    have hzs : z0.cells.size = 8:=by rw [hz0]; rfl
    have hm8 : i * 8 + (ds.length - i) * 8 = ds.length * 8:=by omega
    have hcl : ∀ ty,(Builtin.clear_ #[162] ty #[.slice (some ⟨g,i * 8,none⟩) (ds.length - i) (cap - i)]).run Tryz.prog wr = .ok (.tuple #[]) (setK wr g (i * 8) (Builtin.zeroCells z0.cells (ds.length - i)).toList) :=
     fun ty => run_clear_rows wr _ _ ty z0 Tryz.underlying162 (fun w => by rw [hz0]; kernel_rfl) 8 hzs (by omega) (by rw [hz0]; simp [Value.cells,Value.oneCell']) g (i * 8) _ _ (by omega) (fun q hq => by
      have h1:=hk.out.cell (i + q / 8) (q % 8) (by omega) (by omega)
      rw [show i * 8 + q = (i + q / 8) * 8 + q % 8 from by omega,h1]; rfl) (fun q hq => hk.out.frozen _)
    have hKC:=Lib.hid (hk.out.cut (i:=i) (by omega) (Builtin.zeroCells z0.cells (ds.length - i)).toList (by rw [Array.length_toList,size_zeroCells,hzs]; omega))
    have hGC:=Lib.hid (setK_grown (i * 8) (Builtin.zeroCells z0.cells (ds.length - i)).toList hG.out)
    have hLC : Hid ((Builtin.zeroCells z0.cells (ds.length - i)).toList.length = (ds.length - i) * 8):=by show _ = _; rw [Array.length_toList,size_zeroCells,hzs]
    generalize setK wr g (i * 8) (Builtin.zeroCells z0.cells (ds.length - i)).toList = w9 at *
    have HF : Hid ((∃ v',Ending.returned (.slice (some ⟨g,0,none⟩) i cap) = .returned v' ∧ Orow w9 B 167 8 fTd v' (ds.filter fun d => !p d) ∧ (v'.ownBlock = (Value.slice (some ⟨g,0,none⟩) ds.length cap).ownBlock)) ∧ w.grownBy w9 (Value.slice (some ⟨g,0,none⟩) ds.length cap).ownBlock):=by
     refine ⟨⟨_,rfl,?_,rfl⟩,hGC.out⟩
     have hli : (cur.take i).length = i:=by rw [List.length_take]; omega
     have:=Orow.of_blk (cap:=cap) hKC.out hBg hm (by omega) (by rw [List.length_append,hLC.out,HRE.out,hli]; omega)
     rw [hli] at this
     rw [← hdone.out]
     exact this
    clear hD hk hG hKC hGC hLC hz0 hzs hm8 hdone
    go_wp2_with fail
    go_ret
    exact HF.out
open Go.RowKit
theorem fTd_one (d : TdD) (m : Nat) : (fTd d m).oneCell' = true:=by
 unfold fTd
 split <;> rfl
structure TdOk (ds : List TdD) : Prop where
 len : ds.length ≤ 100000
 pos : 0 < ds.length
 text : ∀ d ∈ ds,d.text.size ≤ 1000000
 num : ∀ d ∈ ds,-4611686018427387904 ≤ d.num ∧ d.num ≤ 4611686018427387904
 kind : ∀ d ∈ ds,0 ≤ d.kind ∧ d.kind ≤ 100
theorem TdOk.fit {ds : List TdD} (h : TdOk ds) {d : TdD} (hd : d ∈ ds) : FitV d.v:=by
 have h1:=h.text d hd
 have h2:=h.num d hd
 have h3:=h.kind d hd
 exact ⟨⟨by show _ ≤ d.kind; omega,by show d.kind ≤ _; omega⟩,h1,by show _ ≤ d.num; omega,by show d.num ≤ _; omega⟩
set_option maxHeartbeats 4000000 in
set_option maxRecDepth 100000 in
theorem surv_first (H : Frz) (name : ByteArray) (sa : Option Addr) (sc : Nat) (srcs : List ByteArray) (hS : Rw H sa 1 fS srcs) (hsl : srcs.length ≤ 1000) (ds : List TdD) (hok : TdOk ds) (A : Option Addr) (cap : Nat) (w : World) (hH : H.In w) (hR : Rw H A 8 fTd ds) :
  Calls Tryz.prog 188 #[.agg #[.string name,.int .i64 2,.slice sa srcs.length sc],.slice A ds.length cap] w fun e w' => e = .returned (vV (surT 2 srcs ds).v) ∧ Below w.heap.size w w':=by
 have HB:=Lib.hid (new2 (w:=w) (.cells #[.string name,.int .i64 2,.slice sa srcs.length sc] 210) (.cells #[.int .i64 0,.string ⟨#[]⟩,.int .i64 0] 37))
 have hin:=hH.below HB.out
 have hle : H.Le (wholeH ((w.alloc (.cells #[.string name,.int .i64 2,.slice sa srcs.length sc] 210)).alloc (.cells #[.int .i64 0,.string ⟨#[]⟩,.int .i64 0] 37))):=fun b o h => hin b o h
 have h1 : ((w.alloc (.cells #[.string name,.int .i64 2,.slice sa srcs.length sc] 210)).alloc (.cells #[.int .i64 0,.string ⟨#[]⟩,.int .i64 0] 37)).heap[w.heap.size]? = some (.cells #[.string name,.int .i64 2,.slice sa srcs.length sc] 210):=(heap_lt (by simp)).trans (heap_alloc_new _ _)
 have H2 : Hid (((w.alloc (.cells #[.string name,.int .i64 2,.slice sa srcs.length sc] 210)).alloc (.cells #[.int .i64 0,.string ⟨#[]⟩,.int .i64 0] 37)).heap[w.heap.size + 1]? = some (.cells #[.int .i64 0,.string ⟨#[]⟩,.int .i64 0] 37)):=heap_at (by simp)
 have L1:=lift_cell (cell_h h1 1 (v:=.int .i64 2) rfl)
 have b1:=L1 _ (Below.refl _ _)
 have hwh:=wholeH_in ((w.alloc (.cells #[.string name,.int .i64 2,.slice sa srcs.length sc] 210)).alloc (.cells #[.int .i64 0,.string ⟨#[]⟩,.int .i64 0] 37))
 have HMX:=Lib.hid (minFunc_Td H 238 [] laterC ds (fun W x y _ _ _ => later_any x y W) (fun _ _ _ => by kernel_rfl) A cap _ hin hR (by have:=hok.len; omega) hok.pos)
 clear hle h1 hin hwh hR hH hok hS
 go_enter Tryz.func188,Tryz.ntmps188
 go_wp2_with fail
 generalize (w.alloc _).alloc _ = W2 at *
 refine HMX.out.mono ?_
 rintro e w1 ⟨rfl,hb⟩
 have hk:=(hb.block _ (lt_of_heap H2.out)).trans H2.out
 have HB3:=Lib.hid (HB.out.trans (hb.mono HB.out.size))
 have x0 : w1.cell? ⟨w.heap.size + 1,0,none⟩ = some (.int .i64 0):=cell_h hk 0 rfl
 have x1 : w1.cell? ⟨w.heap.size + 1,1,none⟩ = some (.string ⟨#[]⟩):=cell_h hk 1 rfl
 have x2 : w1.cell? ⟨w.heap.size + 1,2,none⟩ = some (.int .i64 0):=cell_h hk 2 rfl
 have y0:=froz_h hk 0
 have y1:=froz_h hk 1
 have y2:=froz_h hk 2
 have HK9:=Lib.hid (fun a0 a1 a2 => set3 hk a0 a1 a2)
 have hff : ∀ W : World,(Instr.field 167 (tdV (minL laterC ds)) 1).run Tryz.prog W = .ok (.agg #[.int .i64 (minL laterC ds).kind,.string (minL laterC ds).text,.int .i64 (minL laterC ds).num]) W:=fun W => by kernel_rfl
 have hb2:=Lib.hid (((HB3.out.setCell (p:=⟨w.heap.size + 1,0,none⟩) (Nat.le_succ _) (.int .i64 (minL laterC ds).kind)).setCell (p:=⟨w.heap.size + 1,1,none⟩) (Nat.le_succ _) (.string (minL laterC ds).text)).setCell (p:=⟨w.heap.size + 1,2,none⟩) (Nat.le_succ _) (.int .i64 (minL laterC ds).num))
 have HV : Hid ((surT 2 srcs ds).v = (minL laterC ds).v):=by show _ = _; simp [surT]
 clear hk hb HMX H2 HB
 generalize minL laterC ds = d at *
 go_wp2_with fail
 have z0:=cell_h (HK9.out (.int .i64 d.kind) (.string d.text) (.int .i64 d.num)) 0 (v:=.int .i64 d.kind) rfl
 have z1:=cell_h (HK9.out (.int .i64 d.kind) (.string d.text) (.int .i64 d.num)) 1 (v:=.string d.text) rfl
 have z2:=cell_h (HK9.out (.int .i64 d.kind) (.string d.text) (.int .i64 d.num)) 2 (v:=.int .i64 d.num) rfl
 refine bodyPost_ret (v:=.agg #[.int .i64 d.kind,.string d.text,.int .i64 d.num]) (by simp [results,Tryz.results188,go_sem,z0,z1,z2]) rfl ⟨?_,hb2.out⟩
 rw [HV.out]; rfl
set_option maxHeartbeats 4000000 in
set_option maxRecDepth 100000 in
theorem surv_long (H : Frz) (name : ByteArray) (sa : Option Addr) (sc : Nat) (srcs : List ByteArray) (hS : Rw H sa 1 fS srcs) (hsl : srcs.length ≤ 1000) (ds : List TdD) (hok : TdOk ds) (A : Option Addr) (cap : Nat) (w : World) (hH : H.In w) (hR : Rw H A 8 fTd ds) :
  Calls Tryz.prog 188 #[.agg #[.string name,.int .i64 3,.slice sa srcs.length sc],.slice A ds.length cap] w fun e w' => e = .returned (vV (surT 3 srcs ds).v) ∧ Below w.heap.size w w':=by
 have HB:=Lib.hid (new2 (w:=w) (.cells #[.string name,.int .i64 3,.slice sa srcs.length sc] 210) (.cells #[.int .i64 0,.string ⟨#[]⟩,.int .i64 0] 37))
 have hin:=hH.below HB.out
 have hle : H.Le (wholeH ((w.alloc (.cells #[.string name,.int .i64 3,.slice sa srcs.length sc] 210)).alloc (.cells #[.int .i64 0,.string ⟨#[]⟩,.int .i64 0] 37))):=fun b o h => hin b o h
 have h1 : ((w.alloc (.cells #[.string name,.int .i64 3,.slice sa srcs.length sc] 210)).alloc (.cells #[.int .i64 0,.string ⟨#[]⟩,.int .i64 0] 37)).heap[w.heap.size]? = some (.cells #[.string name,.int .i64 3,.slice sa srcs.length sc] 210):=(heap_lt (by simp)).trans (heap_alloc_new _ _)
 have H2 : Hid (((w.alloc (.cells #[.string name,.int .i64 3,.slice sa srcs.length sc] 210)).alloc (.cells #[.int .i64 0,.string ⟨#[]⟩,.int .i64 0] 37)).heap[w.heap.size + 1]? = some (.cells #[.int .i64 0,.string ⟨#[]⟩,.int .i64 0] 37)):=heap_at (by simp)
 have L1:=lift_cell (cell_h h1 1 (v:=.int .i64 3) rfl)
 have b1:=L1 _ (Below.refl _ _)
 have hwh:=wholeH_in ((w.alloc (.cells #[.string name,.int .i64 3,.slice sa srcs.length sc] 210)).alloc (.cells #[.int .i64 0,.string ⟨#[]⟩,.int .i64 0] 37))
 have HMX:=Lib.hid (best_any H 240 [] mLong (fun _ _ => by kernel_rfl) ds (fun W d hd _ => longM_any d (hok.text d hd) W) A cap _ hin hR (by have:=hok.len; omega) hok.pos)
 clear hle h1 hin hwh hR hH hok hS
 go_enter Tryz.func188,Tryz.ntmps188
 go_wp2_with fail
 generalize (w.alloc _).alloc _ = W2 at *
 refine HMX.out.mono ?_
 rintro e w1 ⟨rfl,hb⟩
 have hk:=(hb.block _ (lt_of_heap H2.out)).trans H2.out
 have HB3:=Lib.hid (HB.out.trans (hb.mono HB.out.size))
 have x0 : w1.cell? ⟨w.heap.size + 1,0,none⟩ = some (.int .i64 0):=cell_h hk 0 rfl
 have x1 : w1.cell? ⟨w.heap.size + 1,1,none⟩ = some (.string ⟨#[]⟩):=cell_h hk 1 rfl
 have x2 : w1.cell? ⟨w.heap.size + 1,2,none⟩ = some (.int .i64 0):=cell_h hk 2 rfl
 have y0:=froz_h hk 0
 have y1:=froz_h hk 1
 have y2:=froz_h hk 2
 have HK9:=Lib.hid (fun a0 a1 a2 => set3 hk a0 a1 a2)
 have hb2:=Lib.hid (((HB3.out.setCell (p:=⟨w.heap.size + 1,0,none⟩) (Nat.le_succ _) (.int .i64 (maxL (cmpBy mLong) ds).kind)).setCell (p:=⟨w.heap.size + 1,1,none⟩) (Nat.le_succ _) (.string (maxL (cmpBy mLong) ds).text)).setCell (p:=⟨w.heap.size + 1,2,none⟩) (Nat.le_succ _) (.int .i64 (maxL (cmpBy mLong) ds).num))
 have HV : Hid ((surT 3 srcs ds).v = (maxL (cmpBy mLong) ds).v):=by show _ = _; simp [surT]
 clear hk hb HMX H2 HB
 generalize maxL (cmpBy mLong) ds = d at *
 have hvv : vV d.v = .agg #[.int .i64 d.kind,.string d.text,.int .i64 d.num]:=rfl
 rw [hvv]
 clear hvv
 go_wp2_with fail
 have z0:=cell_h (HK9.out (.int .i64 d.kind) (.string d.text) (.int .i64 d.num)) 0 (v:=.int .i64 d.kind) rfl
 have z1:=cell_h (HK9.out (.int .i64 d.kind) (.string d.text) (.int .i64 d.num)) 1 (v:=.string d.text) rfl
 have z2:=cell_h (HK9.out (.int .i64 d.kind) (.string d.text) (.int .i64 d.num)) 2 (v:=.int .i64 d.num) rfl
 refine bodyPost_ret (v:=.agg #[.int .i64 d.kind,.string d.text,.int .i64 d.num]) (by simp [results,Tryz.results188,go_sem,z0,z1,z2]) rfl ⟨?_,hb2.out⟩
 rw [HV.out]; rfl
set_option maxHeartbeats 4000000 in
set_option maxRecDepth 100000 in
theorem surv_src (H : Frz) (name : ByteArray) (sa : Option Addr) (sc : Nat) (srcs : List ByteArray) (hS : Rw H sa 1 fS srcs) (hsl : srcs.length ≤ 1000) (ds : List TdD) (hok : TdOk ds) (A : Option Addr) (cap : Nat) (w : World) (hH : H.In w) (hR : Rw H A 8 fTd ds) :
  Calls Tryz.prog 188 #[.agg #[.string name,.int .i64 5,.slice sa srcs.length sc],.slice A ds.length cap] w fun e w' => e = .returned (vV (surT 5 srcs ds).v) ∧ Below w.heap.size w w':=by
 have HB:=Lib.hid (new2 (w:=w) (.cells #[.string name,.int .i64 5,.slice sa srcs.length sc] 210) (.cells #[.int .i64 0,.string ⟨#[]⟩,.int .i64 0] 37))
 have hin:=hH.below HB.out
 have hle : H.Le (wholeH ((w.alloc (.cells #[.string name,.int .i64 5,.slice sa srcs.length sc] 210)).alloc (.cells #[.int .i64 0,.string ⟨#[]⟩,.int .i64 0] 37))):=fun b o h => hin b o h
 have h1 : ((w.alloc (.cells #[.string name,.int .i64 5,.slice sa srcs.length sc] 210)).alloc (.cells #[.int .i64 0,.string ⟨#[]⟩,.int .i64 0] 37)).heap[w.heap.size]? = some (.cells #[.string name,.int .i64 5,.slice sa srcs.length sc] 210):=(heap_lt (by simp)).trans (heap_alloc_new _ _)
 have H2 : Hid (((w.alloc (.cells #[.string name,.int .i64 5,.slice sa srcs.length sc] 210)).alloc (.cells #[.int .i64 0,.string ⟨#[]⟩,.int .i64 0] 37)).heap[w.heap.size + 1]? = some (.cells #[.int .i64 0,.string ⟨#[]⟩,.int .i64 0] 37)):=heap_at (by simp)
 have L1:=lift_cell (cell_h h1 1 (v:=.int .i64 5) rfl)
 have b1:=L1 _ (Below.refl _ _)
 have hwh:=wholeH_in ((w.alloc (.cells #[.string name,.int .i64 5,.slice sa srcs.length sc] 210)).alloc (.cells #[.int .i64 0,.string ⟨#[]⟩,.int .i64 0] 37))
 have hcell : (wholeH ((w.alloc (.cells #[.string name,.int .i64 5,.slice sa srcs.length sc] 210)).alloc (.cells #[.int .i64 0,.string ⟨#[]⟩,.int .i64 0] 37))).cell? ⟨w.heap.size,2,none⟩ = some (.slice sa srcs.length sc):=by
  simp only [Frz.cell?,wholeH,h1]
  rfl
 have HMX:=Lib.hid (best_any _ 243 [.pointer (some ⟨w.heap.size,0,none⟩)] (mSrc srcs) (fun _ _ => by kernel_rfl) ds (fun W d hd hW => srcM_any hcell (hS.le hle) hsl d W hW) A cap _ hwh (hR.le hle) (by have:=hok.len; omega) hok.pos)
 clear hcell
 clear hle h1 hin hwh hR hH hok hS
 go_enter Tryz.func188,Tryz.ntmps188
 go_wp2_with fail
 generalize (w.alloc _).alloc _ = W2 at *
 refine HMX.out.mono ?_
 rintro e w1 ⟨rfl,hb⟩
 have hk:=(hb.block _ (lt_of_heap H2.out)).trans H2.out
 have HB3:=Lib.hid (HB.out.trans (hb.mono HB.out.size))
 have x0 : w1.cell? ⟨w.heap.size + 1,0,none⟩ = some (.int .i64 0):=cell_h hk 0 rfl
 have x1 : w1.cell? ⟨w.heap.size + 1,1,none⟩ = some (.string ⟨#[]⟩):=cell_h hk 1 rfl
 have x2 : w1.cell? ⟨w.heap.size + 1,2,none⟩ = some (.int .i64 0):=cell_h hk 2 rfl
 have y0:=froz_h hk 0
 have y1:=froz_h hk 1
 have y2:=froz_h hk 2
 have HK9:=Lib.hid (fun a0 a1 a2 => set3 hk a0 a1 a2)
 have hb2:=Lib.hid (((HB3.out.setCell (p:=⟨w.heap.size + 1,0,none⟩) (Nat.le_succ _) (.int .i64 (maxL (cmpBy (mSrc srcs)) ds).kind)).setCell (p:=⟨w.heap.size + 1,1,none⟩) (Nat.le_succ _) (.string (maxL (cmpBy (mSrc srcs)) ds).text)).setCell (p:=⟨w.heap.size + 1,2,none⟩) (Nat.le_succ _) (.int .i64 (maxL (cmpBy (mSrc srcs)) ds).num))
 have HV : Hid ((surT 5 srcs ds).v = (maxL (cmpBy (mSrc srcs)) ds).v):=by show _ = _; simp [surT]
 clear hk hb HMX H2 HB
 generalize maxL (cmpBy (mSrc srcs)) ds = d at *
 have hvv : vV d.v = .agg #[.int .i64 d.kind,.string d.text,.int .i64 d.num]:=rfl
 rw [hvv]
 clear hvv
 go_wp2_with fail
 have z0:=cell_h (HK9.out (.int .i64 d.kind) (.string d.text) (.int .i64 d.num)) 0 (v:=.int .i64 d.kind) rfl
 have z1:=cell_h (HK9.out (.int .i64 d.kind) (.string d.text) (.int .i64 d.num)) 1 (v:=.string d.text) rfl
 have z2:=cell_h (HK9.out (.int .i64 d.kind) (.string d.text) (.int .i64 d.num)) 2 (v:=.int .i64 d.num) rfl
 refine bodyPost_ret (v:=.agg #[.int .i64 d.kind,.string d.text,.int .i64 d.num]) (by simp [results,Tryz.results188,go_sem,z0,z1,z2]) rfl ⟨?_,hb2.out⟩
 rw [HV.out]; rfl
set_option maxHeartbeats 4000000 in
set_option maxRecDepth 100000 in
theorem surv_last (H : Frz) (name : ByteArray) (how : Int) (hn : ¬ (how = 2 ∨ how = 3 ∨ how = 4 ∨ how = 5 ∨ how = 6 ∨ how = 7)) (sa : Option Addr) (sc : Nat) (srcs : List ByteArray) (hS : Rw H sa 1 fS srcs) (hsl : srcs.length ≤ 1000) (ds : List TdD) (hok : TdOk ds) (A : Option Addr) (cap : Nat) (w : World) (hH : H.In w) (hR : Rw H A 8 fTd ds) :
  Calls Tryz.prog 188 #[.agg #[.string name,.int .i64 how,.slice sa srcs.length sc],.slice A ds.length cap] w fun e w' => e = .returned (vV (surT how srcs ds).v) ∧ Below w.heap.size w w':=by
 have HB:=Lib.hid (new2 (w:=w) (.cells #[.string name,.int .i64 how,.slice sa srcs.length sc] 210) (.cells #[.int .i64 0,.string ⟨#[]⟩,.int .i64 0] 37))
 have hin:=hH.below HB.out
 have hle : H.Le (wholeH ((w.alloc (.cells #[.string name,.int .i64 how,.slice sa srcs.length sc] 210)).alloc (.cells #[.int .i64 0,.string ⟨#[]⟩,.int .i64 0] 37))):=fun b o h => hin b o h
 have h1 : ((w.alloc (.cells #[.string name,.int .i64 how,.slice sa srcs.length sc] 210)).alloc (.cells #[.int .i64 0,.string ⟨#[]⟩,.int .i64 0] 37)).heap[w.heap.size]? = some (.cells #[.string name,.int .i64 how,.slice sa srcs.length sc] 210):=(heap_lt (by simp)).trans (heap_alloc_new _ _)
 have H2 : Hid (((w.alloc (.cells #[.string name,.int .i64 how,.slice sa srcs.length sc] 210)).alloc (.cells #[.int .i64 0,.string ⟨#[]⟩,.int .i64 0] 37)).heap[w.heap.size + 1]? = some (.cells #[.int .i64 0,.string ⟨#[]⟩,.int .i64 0] 37)):=heap_at (by simp)
 have L1:=lift_cell (cell_h h1 1 (v:=.int .i64 how) rfl)
 have b1:=L1 _ (Below.refl _ _)
 have hwh:=wholeH_in ((w.alloc (.cells #[.string name,.int .i64 how,.slice sa srcs.length sc] 210)).alloc (.cells #[.int .i64 0,.string ⟨#[]⟩,.int .i64 0] 37))
 have n2 : ¬ how = 2:=fun e => hn (by simp [e])
 have n3 : ¬ how = 3:=fun e => hn (by simp [e])
 have n4 : ¬ how = 4:=fun e => hn (by simp [e])
 have n5 : ¬ how = 5:=fun e => hn (by simp [e])
 have n6 : ¬ how = 6:=fun e => hn (by simp [e])
 have n7 : ¬ how = 7:=fun e => hn (by simp [e])
 have HMX:=Lib.hid (maxFunc_Td H 238 [] laterC ds (fun W x y _ _ _ => later_any x y W) (fun _ _ _ => by kernel_rfl) A cap _ hin hR (by have:=hok.len; omega) hok.pos)
 clear hn
 clear hle h1 hin hwh hR hH hok hS
 go_enter Tryz.func188,Tryz.ntmps188
 go_wp2_with fail
 generalize (w.alloc _).alloc _ = W2 at *
 refine HMX.out.mono ?_
 rintro e w1 ⟨rfl,hb⟩
 have hk:=(hb.block _ (lt_of_heap H2.out)).trans H2.out
 have HB3:=Lib.hid (HB.out.trans (hb.mono HB.out.size))
 have x0 : w1.cell? ⟨w.heap.size + 1,0,none⟩ = some (.int .i64 0):=cell_h hk 0 rfl
 have x1 : w1.cell? ⟨w.heap.size + 1,1,none⟩ = some (.string ⟨#[]⟩):=cell_h hk 1 rfl
 have x2 : w1.cell? ⟨w.heap.size + 1,2,none⟩ = some (.int .i64 0):=cell_h hk 2 rfl
 have y0:=froz_h hk 0
 have y1:=froz_h hk 1
 have y2:=froz_h hk 2
 have HK9:=Lib.hid (fun a0 a1 a2 => set3 hk a0 a1 a2)
 have hff : ∀ W : World,(Instr.field 167 (tdV (maxL laterC ds)) 1).run Tryz.prog W = .ok (.agg #[.int .i64 (maxL laterC ds).kind,.string (maxL laterC ds).text,.int .i64 (maxL laterC ds).num]) W:=fun W => by kernel_rfl
 have hb2:=Lib.hid (((HB3.out.setCell (p:=⟨w.heap.size + 1,0,none⟩) (Nat.le_succ _) (.int .i64 (maxL laterC ds).kind)).setCell (p:=⟨w.heap.size + 1,1,none⟩) (Nat.le_succ _) (.string (maxL laterC ds).text)).setCell (p:=⟨w.heap.size + 1,2,none⟩) (Nat.le_succ _) (.int .i64 (maxL laterC ds).num))
 have HV : Hid ((surT how srcs ds).v = (maxL laterC ds).v):=by show _ = _; simp [surT,n2,n3,n4,n5,n6,n7]
 clear hk hb HMX H2 HB
 generalize maxL laterC ds = d at *
 go_wp2_with fail
 have z0:=cell_h (HK9.out (.int .i64 d.kind) (.string d.text) (.int .i64 d.num)) 0 (v:=.int .i64 d.kind) rfl
 have z1:=cell_h (HK9.out (.int .i64 d.kind) (.string d.text) (.int .i64 d.num)) 1 (v:=.string d.text) rfl
 have z2:=cell_h (HK9.out (.int .i64 d.kind) (.string d.text) (.int .i64 d.num)) 2 (v:=.int .i64 d.num) rfl
 refine bodyPost_ret (v:=.agg #[.int .i64 d.kind,.string d.text,.int .i64 d.num]) (by simp [results,Tryz.results188,go_sem,z0,z1,z2]) rfl ⟨?_,hb2.out⟩
 rw [HV.out]; rfl
set_option maxHeartbeats 4000000 in
set_option maxRecDepth 100000 in
theorem surv_none6 (H : Frz) (name : ByteArray) (sa : Option Addr) (sc : Nat) (srcs : List ByteArray) (hS : Rw H sa 1 fS srcs) (hsl : srcs.length ≤ 1000) (ds : List TdD) (hok : TdOk ds) (A : Option Addr) (cap : Nat) (w : World) (hH : H.In w) (hR : Rw H A 8 fTd ds) (hany : anyF (fun d => !textT d) ds = false) :
  Calls Tryz.prog 188 #[.agg #[.string name,.int .i64 6,.slice sa srcs.length sc],.slice A ds.length cap] w fun e w' => e = .returned (vV (surT 6 srcs ds).v) ∧ Below w.heap.size w w':=by
 have HB:=Lib.hid (new2 (w:=w) (.cells #[.string name,.int .i64 6,.slice sa srcs.length sc] 210) (.cells #[.int .i64 0,.string ⟨#[]⟩,.int .i64 0] 37))
 have hin:=hH.below HB.out
 have hle : H.Le (wholeH ((w.alloc (.cells #[.string name,.int .i64 6,.slice sa srcs.length sc] 210)).alloc (.cells #[.int .i64 0,.string ⟨#[]⟩,.int .i64 0] 37))):=fun b o h => hin b o h
 have h1 : ((w.alloc (.cells #[.string name,.int .i64 6,.slice sa srcs.length sc] 210)).alloc (.cells #[.int .i64 0,.string ⟨#[]⟩,.int .i64 0] 37)).heap[w.heap.size]? = some (.cells #[.string name,.int .i64 6,.slice sa srcs.length sc] 210):=(heap_lt (by simp)).trans (heap_alloc_new _ _)
 have H2 : Hid (((w.alloc (.cells #[.string name,.int .i64 6,.slice sa srcs.length sc] 210)).alloc (.cells #[.int .i64 0,.string ⟨#[]⟩,.int .i64 0] 37)).heap[w.heap.size + 1]? = some (.cells #[.int .i64 0,.string ⟨#[]⟩,.int .i64 0] 37)):=heap_at (by simp)
 have L1:=lift_cell (cell_h h1 1 (v:=.int .i64 6) rfl)
 have b1:=L1 _ (Below.refl _ _)
 have hwh:=wholeH_in ((w.alloc (.cells #[.string name,.int .i64 6,.slice sa srcs.length sc] 210)).alloc (.cells #[.int .i64 0,.string ⟨#[]⟩,.int .i64 0] 37))
 have H1 : Hid (((w.alloc (.cells #[.string name,.int .i64 6,.slice sa srcs.length sc] 210)).alloc (.cells #[.int .i64 0,.string ⟨#[]⟩,.int .i64 0] 37)).heap[w.heap.size]? = some (.cells #[.string name,.int .i64 6,.slice sa srcs.length sc] 210)):=h1
 have HCT:=Lib.hid (containsFunc_Td H fTd 246 [] (fun d => !textT d) ds (fun W d _ _ => notText_any d W) (fun _ _ => by kernel_rfl) A cap _ hin hR (by have:=hok.len; omega))
 have HIN:=Lib.hid hin
 have HA:=Lib.hid hany
 have HMX:=Lib.hid (fun W (hW : H.In W) => maxFunc_Td H 238 [] laterC ds (fun W x y _ _ _ => later_any x y W) (fun _ _ _ => by kernel_rfl) A cap W hW hR (by have:=hok.len; omega) hok.pos)
 clear hany
 clear hle h1 hin hwh hR hH hok hS
 go_enter Tryz.func188,Tryz.ntmps188
 go_wp2_with fail
 generalize (w.alloc _).alloc _ = W2 at *
 refine HCT.out.mono ?_
 rintro e W3 ⟨rfl,hb0⟩
 rw [HA.out]
 have HBA:=Lib.hid (HB.out.trans (hb0.mono HB.out.size))
 have H23:=Lib.hid ((hb0.block _ (lt_of_heap H2.out)).trans H2.out)
 have H13:=Lib.hid ((hb0.block _ (lt_of_heap H1.out)).trans H1.out)
 have HIN3:=Lib.hid (HIN.out.below hb0)
 clear hb0 HCT HB H2 H1 HIN b1 L1
 go_wp2_with fail
 refine (HMX.out _ HIN3.out).mono ?_
 rintro e w1 ⟨rfl,hb⟩
 have HB:=Lib.hid HBA.out
 have H2:=Lib.hid H23.out
 have hno : ds.any (fun d => !textT d) = false:=HA.out
 have hk:=(hb.block _ (lt_of_heap H2.out)).trans H2.out
 have HB3:=Lib.hid (HB.out.trans (hb.mono HB.out.size))
 have x0 : w1.cell? ⟨w.heap.size + 1,0,none⟩ = some (.int .i64 0):=cell_h hk 0 rfl
 have x1 : w1.cell? ⟨w.heap.size + 1,1,none⟩ = some (.string ⟨#[]⟩):=cell_h hk 1 rfl
 have x2 : w1.cell? ⟨w.heap.size + 1,2,none⟩ = some (.int .i64 0):=cell_h hk 2 rfl
 have y0:=froz_h hk 0
 have y1:=froz_h hk 1
 have y2:=froz_h hk 2
 have HK9:=Lib.hid (fun a0 a1 a2 => set3 hk a0 a1 a2)
 have hff : ∀ W : World,(Instr.field 167 (tdV (maxL laterC ds)) 1).run Tryz.prog W = .ok (.agg #[.int .i64 (maxL laterC ds).kind,.string (maxL laterC ds).text,.int .i64 (maxL laterC ds).num]) W:=fun W => by kernel_rfl
 have hb2:=Lib.hid (((HB3.out.setCell (p:=⟨w.heap.size + 1,0,none⟩) (Nat.le_succ _) (.int .i64 (maxL laterC ds).kind)).setCell (p:=⟨w.heap.size + 1,1,none⟩) (Nat.le_succ _) (.string (maxL laterC ds).text)).setCell (p:=⟨w.heap.size + 1,2,none⟩) (Nat.le_succ _) (.int .i64 (maxL laterC ds).num))
 have HV : Hid ((surT 6 srcs ds).v = (maxL laterC ds).v):=by show _ = _; simp [surT,hno]
 clear hk hb HMX H2 HB H23 H13 HBA HIN3 hno
 generalize maxL laterC ds = d at *
 go_wp2_with fail
 have z0:=cell_h (HK9.out (.int .i64 d.kind) (.string d.text) (.int .i64 d.num)) 0 (v:=.int .i64 d.kind) rfl
 have z1:=cell_h (HK9.out (.int .i64 d.kind) (.string d.text) (.int .i64 d.num)) 1 (v:=.string d.text) rfl
 have z2:=cell_h (HK9.out (.int .i64 d.kind) (.string d.text) (.int .i64 d.num)) 2 (v:=.int .i64 d.num) rfl
 refine bodyPost_ret (v:=.agg #[.int .i64 d.kind,.string d.text,.int .i64 d.num]) (by simp [results,Tryz.results188,go_sem,z0,z1,z2]) rfl ⟨?_,hb2.out⟩
 rw [HV.out]; rfl
set_option maxHeartbeats 4000000 in
set_option maxRecDepth 100000 in
theorem surv_num6 (H : Frz) (name : ByteArray) (sa : Option Addr) (sc : Nat) (srcs : List ByteArray) (hS : Rw H sa 1 fS srcs) (hsl : srcs.length ≤ 1000) (ds : List TdD) (hok : TdOk ds) (A : Option Addr) (cap : Nat) (w : World) (hH : H.In w) (hR : Rw H A 8 fTd ds) (hany : anyF (fun d => !textT d) ds = true) :
  Calls Tryz.prog 188 #[.agg #[.string name,.int .i64 6,.slice sa srcs.length sc],.slice A ds.length cap] w fun e w' => e = .returned (vV (surT 6 srcs ds).v) ∧ Below w.heap.size w w':=by
 have HB:=Lib.hid (new2 (w:=w) (.cells #[.string name,.int .i64 6,.slice sa srcs.length sc] 210) (.cells #[.int .i64 0,.string ⟨#[]⟩,.int .i64 0] 37))
 have hin:=hH.below HB.out
 have hle : H.Le (wholeH ((w.alloc (.cells #[.string name,.int .i64 6,.slice sa srcs.length sc] 210)).alloc (.cells #[.int .i64 0,.string ⟨#[]⟩,.int .i64 0] 37))):=fun b o h => hin b o h
 have h1 : ((w.alloc (.cells #[.string name,.int .i64 6,.slice sa srcs.length sc] 210)).alloc (.cells #[.int .i64 0,.string ⟨#[]⟩,.int .i64 0] 37)).heap[w.heap.size]? = some (.cells #[.string name,.int .i64 6,.slice sa srcs.length sc] 210):=(heap_lt (by simp)).trans (heap_alloc_new _ _)
 have H2 : Hid (((w.alloc (.cells #[.string name,.int .i64 6,.slice sa srcs.length sc] 210)).alloc (.cells #[.int .i64 0,.string ⟨#[]⟩,.int .i64 0] 37)).heap[w.heap.size + 1]? = some (.cells #[.int .i64 0,.string ⟨#[]⟩,.int .i64 0] 37)):=heap_at (by simp)
 have L1:=lift_cell (cell_h h1 1 (v:=.int .i64 6) rfl)
 have b1:=L1 _ (Below.refl _ _)
 have hwh:=wholeH_in ((w.alloc (.cells #[.string name,.int .i64 6,.slice sa srcs.length sc] 210)).alloc (.cells #[.int .i64 0,.string ⟨#[]⟩,.int .i64 0] 37))
 have H1 : Hid (((w.alloc (.cells #[.string name,.int .i64 6,.slice sa srcs.length sc] 210)).alloc (.cells #[.int .i64 0,.string ⟨#[]⟩,.int .i64 0] 37)).heap[w.heap.size]? = some (.cells #[.string name,.int .i64 6,.slice sa srcs.length sc] 210)):=h1
 have HCT:=Lib.hid (containsFunc_Td H fTd 246 [] (fun d => !textT d) ds (fun W d _ _ => notText_any d W) (fun _ _ => by kernel_rfl) A cap _ hin hR (by have:=hok.len; omega))
 have HIN:=Lib.hid hin
 have HA:=Lib.hid hany
 have HCL:=Lib.hid (fun W (hW : H.In W) => clone_Td H fTd ds (fun d _ m => fTd_one d m) A cap W hW hR (by have:=hok.len; omega))
 have HDL:=Lib.hid (fun B v W hW hO hf => deleteFunc_Td H 247 [] textT ds (fun W d _ _ => textual_any d W) (fun _ _ => by kernel_rfl) B v W hW hO hf hok.len)
 have HNE : Hid (0 < (ds.filter fun d => !textT d).length):=by
  obtain ⟨x,hx,hp⟩:=List.any_eq_true.1 hany
  exact List.length_pos_of_mem (List.mem_filter.2 ⟨hx,hp⟩)
 have HLE : Hid ((ds.filter fun d => !textT d).length ≤ 100000):=Nat.le_trans (List.length_filter_le _ _) hok.len
 have HNUM : Hid (∀ d ∈ (ds.filter fun d => !textT d),-4611686018427387904 ≤ (1 : Int) * d.num ∧ (1 : Int) * d.num ≤ 4611686018427387904):=fun d hd => by have:=hok.num d (List.mem_filter.1 hd).1; omega
 clear hany
 clear hle h1 hin hwh hR hH hok hS
 go_enter Tryz.func188,Tryz.ntmps188
 go_wp2_with fail
 generalize (w.alloc _).alloc _ = W2 at *
 refine HCT.out.mono ?_
 rintro e W3 ⟨rfl,hb0⟩
 rw [HA.out]
 have HBA:=Lib.hid (HB.out.trans (hb0.mono HB.out.size))
 have H23:=Lib.hid ((hb0.block _ (lt_of_heap H2.out)).trans H2.out)
 have H13:=Lib.hid ((hb0.block _ (lt_of_heap H1.out)).trans H1.out)
 have HIN3:=Lib.hid (HIN.out.below hb0)
 clear hb0 HCT HB H2 H1 HIN b1 L1
 go_wp2_with fail
 refine (HCL.out _ HIN3.out).mono ?_
 rintro e W4 ⟨⟨v4,rfl,o4⟩,hb4⟩
 have HBB:=Lib.hid (HBA.out.trans (hb4.mono HBA.out.size))
 have H24:=Lib.hid ((hb4.block _ (lt_of_heap H23.out)).trans H23.out)
 have H14:=Lib.hid ((hb4.block _ (lt_of_heap H13.out)).trans H13.out)
 have HIN4:=Lib.hid (HIN3.out.below hb4)
 have HS4:=Lib.hid (lt_of_heap H23.out)
 have HD2:=Lib.hid (HDL.out _ v4 W4 HIN4.out o4 (fun q hq => HIN3.out.none_ (o4.lt hq).1))
 have HBO:=Lib.hid (fun (W : World) (hg : W4.grownBy W v4.ownBlock) => own_below o4 hb4.size hg)
 clear HCL HDL hb4 o4 HBA H23 H13
 go_wp2_with fail
 refine HD2.out.mono ?_
 rintro e W5 ⟨⟨v5,rfl,o5,-⟩,g5⟩
 obtain ⟨A5,c5,rfl,-,hR5⟩:=o5.memR
 have hb5:=HBO.out W5 g5
 have HB5:=Lib.hid (HBB.out.trans (hb5.mono (by have:=HS4.out; omega)))
 have H25:=Lib.hid ((hb5.block _ HS4.out).trans H24.out)
 have H15:=Lib.hid ((hb5.block _ (by have:=HS4.out; omega)).trans H14.out)
 have HR5:=Lib.hid hR5
 clear HD2 HBO o5 g5 hb5 HBB H24 H14 HIN4 HIN3 hR5
 have k1:=cell_h H15.out 1 (v:=.int .i64 6) rfl
 have hlt8:=lt_of_heap H15.out
 have HN8:=Lib.hid (new1 (w:=W5) (.cells #[.int .i64 1] 3))
 have HA8:=Lib.hid (heap_alloc_new W5 (.cells #[.int .i64 1] 3))
 go_upto_region 23 with (fail)
 clear k1 hlt8
 generalize W5.alloc (.cells #[.int .i64 1] 3) = W8 at *
 have HB:=Lib.hid (HB5.out.trans (HN8.out.mono HB5.out.size))
 have H2:=Lib.hid ((HN8.out.block _ (lt_of_heap H25.out)).trans H25.out)
 have HL8 : Hid (Frz.Le (fun b => W5.heap[b]?) (wholeH W8)):=fun b o h => (HN8.out.block b (lt_of_heap h)).trans h
 generalize W5.heap.size = p8 at *
 have hc8 : (wholeH W8).cell? ⟨p8,0,none⟩ = some (.int .i64 1):=by
  simp only [Frz.cell?,wholeH,HA8.out]
  rfl
 have HMX:=Lib.hid (best_any (wholeH W8) 250 [.pointer (some ⟨p8,0,none⟩)] (fun d => (1 : Int) * d.num) (fun _ _ => by kernel_rfl) _ (fun W d hd hW => numM_any hc8 d (HNUM.out d hd) W hW) A5 c5 W8 (wholeH_in W8) (HR5.out.le HL8.out) (by have:=HLE.out; omega) HNE.out)
 have hyes : ds.any (fun d => !textT d) = true:=HA.out
 clear hc8 HL8 HR5 HN8 HB5 H25 H15 HA8
 go_wp2_with fail
 refine HMX.out.mono ?_
 rintro e w1 ⟨rfl,hb⟩
 have hk:=(hb.block _ (lt_of_heap H2.out)).trans H2.out
 have HB3:=Lib.hid (HB.out.trans (hb.mono HB.out.size))
 have x0 : w1.cell? ⟨w.heap.size + 1,0,none⟩ = some (.int .i64 0):=cell_h hk 0 rfl
 have x1 : w1.cell? ⟨w.heap.size + 1,1,none⟩ = some (.string ⟨#[]⟩):=cell_h hk 1 rfl
 have x2 : w1.cell? ⟨w.heap.size + 1,2,none⟩ = some (.int .i64 0):=cell_h hk 2 rfl
 have y0:=froz_h hk 0
 have y1:=froz_h hk 1
 have y2:=froz_h hk 2
 have HK9:=Lib.hid (fun a0 a1 a2 => set3 hk a0 a1 a2)
 have hb2:=Lib.hid (((HB3.out.setCell (p:=⟨w.heap.size + 1,0,none⟩) (Nat.le_succ _) (.int .i64 (maxL (cmpBy fun d => (1 : Int) * d.num) (ds.filter fun d => !textT d)).kind)).setCell (p:=⟨w.heap.size + 1,1,none⟩) (Nat.le_succ _) (.string (maxL (cmpBy fun d => (1 : Int) * d.num) (ds.filter fun d => !textT d)).text)).setCell (p:=⟨w.heap.size + 1,2,none⟩) (Nat.le_succ _) (.int .i64 (maxL (cmpBy fun d => (1 : Int) * d.num) (ds.filter fun d => !textT d)).num))
 have HV : Hid ((surT 6 srcs ds).v = (maxL (cmpBy fun d => (1 : Int) * d.num) (ds.filter fun d => !textT d)).v):=by show _ = _; simp [surT,hyes]
 clear hk hb HMX H2 HB hyes
 generalize maxL (cmpBy fun d => (1 : Int) * d.num) (ds.filter fun d => !textT d) = d at *
 have hvv : vV d.v = .agg #[.int .i64 d.kind,.string d.text,.int .i64 d.num]:=rfl
 rw [hvv]
 clear hvv
 go_wp2_with fail
 have z0:=cell_h (HK9.out (.int .i64 d.kind) (.string d.text) (.int .i64 d.num)) 0 (v:=.int .i64 d.kind) rfl
 have z1:=cell_h (HK9.out (.int .i64 d.kind) (.string d.text) (.int .i64 d.num)) 1 (v:=.string d.text) rfl
 have z2:=cell_h (HK9.out (.int .i64 d.kind) (.string d.text) (.int .i64 d.num)) 2 (v:=.int .i64 d.num) rfl
 refine bodyPost_ret (v:=.agg #[.int .i64 d.kind,.string d.text,.int .i64 d.num]) (by simp [results,Tryz.results188,go_sem,z0,z1,z2]) rfl ⟨?_,hb2.out⟩
 rw [HV.out]; rfl
set_option maxHeartbeats 4000000 in
set_option maxRecDepth 100000 in
theorem surv_none7 (H : Frz) (name : ByteArray) (sa : Option Addr) (sc : Nat) (srcs : List ByteArray) (hS : Rw H sa 1 fS srcs) (hsl : srcs.length ≤ 1000) (ds : List TdD) (hok : TdOk ds) (A : Option Addr) (cap : Nat) (w : World) (hH : H.In w) (hR : Rw H A 8 fTd ds) (hany : anyF (fun d => !textT d) ds = false) :
  Calls Tryz.prog 188 #[.agg #[.string name,.int .i64 7,.slice sa srcs.length sc],.slice A ds.length cap] w fun e w' => e = .returned (vV (surT 7 srcs ds).v) ∧ Below w.heap.size w w':=by
 have HB:=Lib.hid (new2 (w:=w) (.cells #[.string name,.int .i64 7,.slice sa srcs.length sc] 210) (.cells #[.int .i64 0,.string ⟨#[]⟩,.int .i64 0] 37))
 have hin:=hH.below HB.out
 have hle : H.Le (wholeH ((w.alloc (.cells #[.string name,.int .i64 7,.slice sa srcs.length sc] 210)).alloc (.cells #[.int .i64 0,.string ⟨#[]⟩,.int .i64 0] 37))):=fun b o h => hin b o h
 have h1 : ((w.alloc (.cells #[.string name,.int .i64 7,.slice sa srcs.length sc] 210)).alloc (.cells #[.int .i64 0,.string ⟨#[]⟩,.int .i64 0] 37)).heap[w.heap.size]? = some (.cells #[.string name,.int .i64 7,.slice sa srcs.length sc] 210):=(heap_lt (by simp)).trans (heap_alloc_new _ _)
 have H2 : Hid (((w.alloc (.cells #[.string name,.int .i64 7,.slice sa srcs.length sc] 210)).alloc (.cells #[.int .i64 0,.string ⟨#[]⟩,.int .i64 0] 37)).heap[w.heap.size + 1]? = some (.cells #[.int .i64 0,.string ⟨#[]⟩,.int .i64 0] 37)):=heap_at (by simp)
 have L1:=lift_cell (cell_h h1 1 (v:=.int .i64 7) rfl)
 have b1:=L1 _ (Below.refl _ _)
 have hwh:=wholeH_in ((w.alloc (.cells #[.string name,.int .i64 7,.slice sa srcs.length sc] 210)).alloc (.cells #[.int .i64 0,.string ⟨#[]⟩,.int .i64 0] 37))
 have H1 : Hid (((w.alloc (.cells #[.string name,.int .i64 7,.slice sa srcs.length sc] 210)).alloc (.cells #[.int .i64 0,.string ⟨#[]⟩,.int .i64 0] 37)).heap[w.heap.size]? = some (.cells #[.string name,.int .i64 7,.slice sa srcs.length sc] 210)):=h1
 have HCT:=Lib.hid (containsFunc_Td H fTd 246 [] (fun d => !textT d) ds (fun W d _ _ => notText_any d W) (fun _ _ => by kernel_rfl) A cap _ hin hR (by have:=hok.len; omega))
 have HIN:=Lib.hid hin
 have HA:=Lib.hid hany
 have HMX:=Lib.hid (fun W (hW : H.In W) => maxFunc_Td H 238 [] laterC ds (fun W x y _ _ _ => later_any x y W) (fun _ _ _ => by kernel_rfl) A cap W hW hR (by have:=hok.len; omega) hok.pos)
 clear hany
 clear hle h1 hin hwh hR hH hok hS
 go_enter Tryz.func188,Tryz.ntmps188
 go_wp2_with fail
 generalize (w.alloc _).alloc _ = W2 at *
 refine HCT.out.mono ?_
 rintro e W3 ⟨rfl,hb0⟩
 rw [HA.out]
 have HBA:=Lib.hid (HB.out.trans (hb0.mono HB.out.size))
 have H23:=Lib.hid ((hb0.block _ (lt_of_heap H2.out)).trans H2.out)
 have H13:=Lib.hid ((hb0.block _ (lt_of_heap H1.out)).trans H1.out)
 have HIN3:=Lib.hid (HIN.out.below hb0)
 clear hb0 HCT HB H2 H1 HIN b1 L1
 go_wp2_with fail
 refine (HMX.out _ HIN3.out).mono ?_
 rintro e w1 ⟨rfl,hb⟩
 have HB:=Lib.hid HBA.out
 have H2:=Lib.hid H23.out
 have hno : ds.any (fun d => !textT d) = false:=HA.out
 have hk:=(hb.block _ (lt_of_heap H2.out)).trans H2.out
 have HB3:=Lib.hid (HB.out.trans (hb.mono HB.out.size))
 have x0 : w1.cell? ⟨w.heap.size + 1,0,none⟩ = some (.int .i64 0):=cell_h hk 0 rfl
 have x1 : w1.cell? ⟨w.heap.size + 1,1,none⟩ = some (.string ⟨#[]⟩):=cell_h hk 1 rfl
 have x2 : w1.cell? ⟨w.heap.size + 1,2,none⟩ = some (.int .i64 0):=cell_h hk 2 rfl
 have y0:=froz_h hk 0
 have y1:=froz_h hk 1
 have y2:=froz_h hk 2
 have HK9:=Lib.hid (fun a0 a1 a2 => set3 hk a0 a1 a2)
 have hff : ∀ W : World,(Instr.field 167 (tdV (maxL laterC ds)) 1).run Tryz.prog W = .ok (.agg #[.int .i64 (maxL laterC ds).kind,.string (maxL laterC ds).text,.int .i64 (maxL laterC ds).num]) W:=fun W => by kernel_rfl
 have hb2:=Lib.hid (((HB3.out.setCell (p:=⟨w.heap.size + 1,0,none⟩) (Nat.le_succ _) (.int .i64 (maxL laterC ds).kind)).setCell (p:=⟨w.heap.size + 1,1,none⟩) (Nat.le_succ _) (.string (maxL laterC ds).text)).setCell (p:=⟨w.heap.size + 1,2,none⟩) (Nat.le_succ _) (.int .i64 (maxL laterC ds).num))
 have HV : Hid ((surT 7 srcs ds).v = (maxL laterC ds).v):=by show _ = _; simp [surT,hno]
 clear hk hb HMX H2 HB H23 H13 HBA HIN3 hno
 generalize maxL laterC ds = d at *
 go_wp2_with fail
 have z0:=cell_h (HK9.out (.int .i64 d.kind) (.string d.text) (.int .i64 d.num)) 0 (v:=.int .i64 d.kind) rfl
 have z1:=cell_h (HK9.out (.int .i64 d.kind) (.string d.text) (.int .i64 d.num)) 1 (v:=.string d.text) rfl
 have z2:=cell_h (HK9.out (.int .i64 d.kind) (.string d.text) (.int .i64 d.num)) 2 (v:=.int .i64 d.num) rfl
 refine bodyPost_ret (v:=.agg #[.int .i64 d.kind,.string d.text,.int .i64 d.num]) (by simp [results,Tryz.results188,go_sem,z0,z1,z2]) rfl ⟨?_,hb2.out⟩
 rw [HV.out]; rfl
set_option maxHeartbeats 4000000 in
set_option maxRecDepth 100000 in
theorem surv_num7 (H : Frz) (name : ByteArray) (sa : Option Addr) (sc : Nat) (srcs : List ByteArray) (hS : Rw H sa 1 fS srcs) (hsl : srcs.length ≤ 1000) (ds : List TdD) (hok : TdOk ds) (A : Option Addr) (cap : Nat) (w : World) (hH : H.In w) (hR : Rw H A 8 fTd ds) (hany : anyF (fun d => !textT d) ds = true) :
  Calls Tryz.prog 188 #[.agg #[.string name,.int .i64 7,.slice sa srcs.length sc],.slice A ds.length cap] w fun e w' => e = .returned (vV (surT 7 srcs ds).v) ∧ Below w.heap.size w w':=by
 have HB:=Lib.hid (new2 (w:=w) (.cells #[.string name,.int .i64 7,.slice sa srcs.length sc] 210) (.cells #[.int .i64 0,.string ⟨#[]⟩,.int .i64 0] 37))
 have hin:=hH.below HB.out
 have hle : H.Le (wholeH ((w.alloc (.cells #[.string name,.int .i64 7,.slice sa srcs.length sc] 210)).alloc (.cells #[.int .i64 0,.string ⟨#[]⟩,.int .i64 0] 37))):=fun b o h => hin b o h
 have h1 : ((w.alloc (.cells #[.string name,.int .i64 7,.slice sa srcs.length sc] 210)).alloc (.cells #[.int .i64 0,.string ⟨#[]⟩,.int .i64 0] 37)).heap[w.heap.size]? = some (.cells #[.string name,.int .i64 7,.slice sa srcs.length sc] 210):=(heap_lt (by simp)).trans (heap_alloc_new _ _)
 have H2 : Hid (((w.alloc (.cells #[.string name,.int .i64 7,.slice sa srcs.length sc] 210)).alloc (.cells #[.int .i64 0,.string ⟨#[]⟩,.int .i64 0] 37)).heap[w.heap.size + 1]? = some (.cells #[.int .i64 0,.string ⟨#[]⟩,.int .i64 0] 37)):=heap_at (by simp)
 have L1:=lift_cell (cell_h h1 1 (v:=.int .i64 7) rfl)
 have b1:=L1 _ (Below.refl _ _)
 have hwh:=wholeH_in ((w.alloc (.cells #[.string name,.int .i64 7,.slice sa srcs.length sc] 210)).alloc (.cells #[.int .i64 0,.string ⟨#[]⟩,.int .i64 0] 37))
 have H1 : Hid (((w.alloc (.cells #[.string name,.int .i64 7,.slice sa srcs.length sc] 210)).alloc (.cells #[.int .i64 0,.string ⟨#[]⟩,.int .i64 0] 37)).heap[w.heap.size]? = some (.cells #[.string name,.int .i64 7,.slice sa srcs.length sc] 210)):=h1
 have HCT:=Lib.hid (containsFunc_Td H fTd 246 [] (fun d => !textT d) ds (fun W d _ _ => notText_any d W) (fun _ _ => by kernel_rfl) A cap _ hin hR (by have:=hok.len; omega))
 have HIN:=Lib.hid hin
 have HA:=Lib.hid hany
 have HCL:=Lib.hid (fun W (hW : H.In W) => clone_Td H fTd ds (fun d _ m => fTd_one d m) A cap W hW hR (by have:=hok.len; omega))
 have HDL:=Lib.hid (fun B v W hW hO hf => deleteFunc_Td H 247 [] textT ds (fun W d _ _ => textual_any d W) (fun _ _ => by kernel_rfl) B v W hW hO hf hok.len)
 have HNE : Hid (0 < (ds.filter fun d => !textT d).length):=by
  obtain ⟨x,hx,hp⟩:=List.any_eq_true.1 hany
  exact List.length_pos_of_mem (List.mem_filter.2 ⟨hx,hp⟩)
 have HLE : Hid ((ds.filter fun d => !textT d).length ≤ 100000):=Nat.le_trans (List.length_filter_le _ _) hok.len
 have HNUM : Hid (∀ d ∈ (ds.filter fun d => !textT d),-4611686018427387904 ≤ (-1 : Int) * d.num ∧ (-1 : Int) * d.num ≤ 4611686018427387904):=fun d hd => by have:=hok.num d (List.mem_filter.1 hd).1; omega
 clear hany
 clear hle h1 hin hwh hR hH hok hS
 go_enter Tryz.func188,Tryz.ntmps188
 go_wp2_with fail
 generalize (w.alloc _).alloc _ = W2 at *
 refine HCT.out.mono ?_
 rintro e W3 ⟨rfl,hb0⟩
 rw [HA.out]
 have HBA:=Lib.hid (HB.out.trans (hb0.mono HB.out.size))
 have H23:=Lib.hid ((hb0.block _ (lt_of_heap H2.out)).trans H2.out)
 have H13:=Lib.hid ((hb0.block _ (lt_of_heap H1.out)).trans H1.out)
 have HIN3:=Lib.hid (HIN.out.below hb0)
 clear hb0 HCT HB H2 H1 HIN b1 L1
 go_wp2_with fail
 refine (HCL.out _ HIN3.out).mono ?_
 rintro e W4 ⟨⟨v4,rfl,o4⟩,hb4⟩
 have HBB:=Lib.hid (HBA.out.trans (hb4.mono HBA.out.size))
 have H24:=Lib.hid ((hb4.block _ (lt_of_heap H23.out)).trans H23.out)
 have H14:=Lib.hid ((hb4.block _ (lt_of_heap H13.out)).trans H13.out)
 have HIN4:=Lib.hid (HIN3.out.below hb4)
 have HS4:=Lib.hid (lt_of_heap H23.out)
 have HD2:=Lib.hid (HDL.out _ v4 W4 HIN4.out o4 (fun q hq => HIN3.out.none_ (o4.lt hq).1))
 have HBO:=Lib.hid (fun (W : World) (hg : W4.grownBy W v4.ownBlock) => own_below o4 hb4.size hg)
 clear HCL HDL hb4 o4 HBA H23 H13
 go_wp2_with fail
 refine HD2.out.mono ?_
 rintro e W5 ⟨⟨v5,rfl,o5,-⟩,g5⟩
 obtain ⟨A5,c5,rfl,-,hR5⟩:=o5.memR
 have hb5:=HBO.out W5 g5
 have HB5:=Lib.hid (HBB.out.trans (hb5.mono (by have:=HS4.out; omega)))
 have H25:=Lib.hid ((hb5.block _ HS4.out).trans H24.out)
 have H15:=Lib.hid ((hb5.block _ (by have:=HS4.out; omega)).trans H14.out)
 have HR5:=Lib.hid hR5
 clear HD2 HBO o5 g5 hb5 HBB H24 H14 HIN4 HIN3 hR5
 have k1:=cell_h H15.out 1 (v:=.int .i64 7) rfl
 have hlt8:=lt_of_heap H15.out
 have HN8:=Lib.hid (new1 (w:=W5) (.cells #[.int .i64 (-1)] 3))
 have HA8:=Lib.hid (heap_alloc_new W5 (.cells #[.int .i64 (-1)] 3))
 go_upto_region 23 with (fail)
 clear k1 hlt8
 generalize W5.alloc (.cells #[.int .i64 (-1)] 3) = W8 at *
 have HB:=Lib.hid (HB5.out.trans (HN8.out.mono HB5.out.size))
 have H2:=Lib.hid ((HN8.out.block _ (lt_of_heap H25.out)).trans H25.out)
 have HL8 : Hid (Frz.Le (fun b => W5.heap[b]?) (wholeH W8)):=fun b o h => (HN8.out.block b (lt_of_heap h)).trans h
 generalize W5.heap.size = p8 at *
 have hc8 : (wholeH W8).cell? ⟨p8,0,none⟩ = some (.int .i64 (-1)):=by
  simp only [Frz.cell?,wholeH,HA8.out]
  rfl
 have HMX:=Lib.hid (best_any (wholeH W8) 250 [.pointer (some ⟨p8,0,none⟩)] (fun d => (-1 : Int) * d.num) (fun _ _ => by kernel_rfl) _ (fun W d hd hW => numM_any hc8 d (HNUM.out d hd) W hW) A5 c5 W8 (wholeH_in W8) (HR5.out.le HL8.out) (by have:=HLE.out; omega) HNE.out)
 have hyes : ds.any (fun d => !textT d) = true:=HA.out
 clear hc8 HL8 HR5 HN8 HB5 H25 H15 HA8
 go_wp2_with fail
 refine HMX.out.mono ?_
 rintro e w1 ⟨rfl,hb⟩
 have hk:=(hb.block _ (lt_of_heap H2.out)).trans H2.out
 have HB3:=Lib.hid (HB.out.trans (hb.mono HB.out.size))
 have x0 : w1.cell? ⟨w.heap.size + 1,0,none⟩ = some (.int .i64 0):=cell_h hk 0 rfl
 have x1 : w1.cell? ⟨w.heap.size + 1,1,none⟩ = some (.string ⟨#[]⟩):=cell_h hk 1 rfl
 have x2 : w1.cell? ⟨w.heap.size + 1,2,none⟩ = some (.int .i64 0):=cell_h hk 2 rfl
 have y0:=froz_h hk 0
 have y1:=froz_h hk 1
 have y2:=froz_h hk 2
 have HK9:=Lib.hid (fun a0 a1 a2 => set3 hk a0 a1 a2)
 have hb2:=Lib.hid (((HB3.out.setCell (p:=⟨w.heap.size + 1,0,none⟩) (Nat.le_succ _) (.int .i64 (maxL (cmpBy fun d => (-1 : Int) * d.num) (ds.filter fun d => !textT d)).kind)).setCell (p:=⟨w.heap.size + 1,1,none⟩) (Nat.le_succ _) (.string (maxL (cmpBy fun d => (-1 : Int) * d.num) (ds.filter fun d => !textT d)).text)).setCell (p:=⟨w.heap.size + 1,2,none⟩) (Nat.le_succ _) (.int .i64 (maxL (cmpBy fun d => (-1 : Int) * d.num) (ds.filter fun d => !textT d)).num))
 have HV : Hid ((surT 7 srcs ds).v = (maxL (cmpBy fun d => (-1 : Int) * d.num) (ds.filter fun d => !textT d)).v):=by show _ = _; simp [surT,hyes]
 clear hk hb HMX H2 HB hyes
 generalize maxL (cmpBy fun d => (-1 : Int) * d.num) (ds.filter fun d => !textT d) = d at *
 have hvv : vV d.v = .agg #[.int .i64 d.kind,.string d.text,.int .i64 d.num]:=rfl
 rw [hvv]
 clear hvv
 go_wp2_with fail
 have z0:=cell_h (HK9.out (.int .i64 d.kind) (.string d.text) (.int .i64 d.num)) 0 (v:=.int .i64 d.kind) rfl
 have z1:=cell_h (HK9.out (.int .i64 d.kind) (.string d.text) (.int .i64 d.num)) 1 (v:=.string d.text) rfl
 have z2:=cell_h (HK9.out (.int .i64 d.kind) (.string d.text) (.int .i64 d.num)) 2 (v:=.int .i64 d.num) rfl
 refine bodyPost_ret (v:=.agg #[.int .i64 d.kind,.string d.text,.int .i64 d.num]) (by simp [results,Tryz.results188,go_sem,z0,z1,z2]) rfl ⟨?_,hb2.out⟩
 rw [HV.out]; rfl
end Go.Proofs.YtbidhpgjmcedaaaGreatDoor
