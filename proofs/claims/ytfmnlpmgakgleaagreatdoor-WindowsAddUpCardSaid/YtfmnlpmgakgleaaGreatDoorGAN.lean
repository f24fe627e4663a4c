/- Texts of this claim, put together: DelEv, DelR. -/
import Derived.Test.YtfmnlpmgakgleaaGreatDoorGAM
import Derived.Test.YtfmnlpmgakgleaaGreatDoorGAK
namespace Go.Proofs.YtfmnlpmgakgleaaGreatDoor
set_option linter.unusedVariables false
open Go.RowKit
open Go.RowKit
structure DelR {D:Type} (q:D → Prop) (ds cur:List D) (i j:Nat):Prop where
 len:cur.length = ds.length
 le:i < j
 lt:j ≤ ds.length
 low:(cur.take i).Sublist (ds.take j)
 ok:∀ d ∈ cur.take i,q d
 high:cur.drop j = ds.drop j
section
variable {D:Type} {q:D → Prop} {ds cur:List D} {i j:Nat}
theorem DelR.at_ (h:DelR q ds cur i j) (hj:j < ds.length):cur[j]'(by rw [h.len];exact hj) = ds[j]:=by
 have e:=congrArg (fun l => l[0]?) h.high
 simp only [List.getElem?_drop,Nat.add_zero] at e
 rw [List.getElem?_eq_getElem (by rw [h.len];exact hj),List.getElem?_eq_getElem hj] at e
 exact Option.some.inj e
theorem DelR.drop (h:DelR q ds cur i j) (hj:j < ds.length):DelR q ds cur i (j + 1):=by
 refine ⟨h.len,by have:=h.le;omega,hj,?_,h.ok,?_⟩
 ·rw [List.take_succ_eq_append_getElem hj]
  exact h.low.trans (List.sublist_append_left _ _)
 ·rw [← List.drop_drop,h.high,List.drop_drop]
theorem DelR.keep (h:DelR q ds cur i j) (hj:j < ds.length) (hp:q ds[j]):DelR q ds (cur.set i ds[j]) (i + 1) (j + 1):=by
 have hle:=h.le
 have hl:=h.len
 have e:(cur.set i ds[j]).take (i + 1) = cur.take i ++ [ds[j]]:=by
  rw [List.take_succ_eq_append_getElem (by simp;omega),List.take_set_of_le (Nat.le_refl _)]
  simp
 refine ⟨by simp [hl],by omega,hj,?_,?_,?_⟩
 ·rw [e,List.take_succ_eq_append_getElem hj]
  exact h.low.append (List.Sublist.refl _)
 ·rw [e]
  intro d hd
  rcases List.mem_append.1 hd with hd | hd
  ·exact h.ok d hd
  ·rw [List.mem_singleton.1 hd];exact hp
 ·rw [List.drop_set_of_lt (by omega),← List.drop_drop,h.high,List.drop_drop]
theorem DelR.done (h:DelR q ds cur i ds.length):(cur.take i).Sublist ds ∧ ∀ d ∈ cur.take i,q d:=⟨by have:=h.low;rwa [List.take_length] at this,h.ok⟩
theorem DelR.start (hj:j < ds.length) (h:∀ d ∈ ds.take j,q d):DelR q ds ds j (j + 1) :=
 ⟨rfl,by omega,hj,by rw [List.take_succ_eq_append_getElem hj];exact List.sublist_append_left _ _,h,rfl⟩
end
def IdxR {D:Type} (q:D → Prop) (ds:List D) (w:World) (e:Ending) (w':World):Prop:=(∃ n:Int,e = .returned (.int .i64 n) ∧ ((n = -1 ∧ ∀ d ∈ ds,q d) ∨ ∃ i:Nat,n = i ∧ i < ds.length ∧ ∀ d ∈ ds.take i,q d)) ∧ Below w.heap.size w w'
def DelRP (q:EvD → Prop) (ds:List EvD) (B:Nat) (v:Value) (w:World) (e:Ending) (w':World):Prop:=∃ v' ds',e = .returned v' ∧ ds'.Sublist ds ∧ (∀ d ∈ ds',q d) ∧ Orow w' B 42 6 fEv v' ds' ∧ v'.ownBlock = v.ownBlock ∧ w.grownBy w' v.ownBlock
section
variable {D:Type}
set_option maxHeartbeats 1000000 in
theorem indexR_Ev (H:Frz) (f:D → Nat → Value) (kf:Nat) (caps:List Value) (q:D → Prop) (ds:List D) (hp:∀ (W:World) (d:D),d ∈ ds → H.In W → Calls Tryz.prog kf ((.agg #[f d 0,f d 1,f d 2,f d 3,f d 4,f d 5]:Value) :: caps).toArray W fun e W' => (∃ x:Bool,e = .returned (.bool x) ∧ (x = false → q d)) ∧ Below W.heap.size W W')
  (hcall:∀ (a:Value) (W:World),(callFunc kf (a :: caps).toArray).run Tryz.prog W = .ok (.enter kf (a :: caps).toArray) W)
  (A:Option Addr) (cap:Nat) (w:World) (hH:H.In w) (hR:Rw H A 6 f ds) (hl:ds.length ≤ 1000000) :
  Calls Tryz.prog 93 #[.slice A ds.length cap,.func (.func kf) #[] caps.toArray] w (IdxR q ds w):=by
 have HP:=Lib.hid hp
 have HR:=Lib.hid hR
 have HH:=Lib.hid hH
 clear hp hR hH
 go_enter Tryz.func93,Tryz.ntmps93
 go_wp2_with fail
 go_loopw [5,8] (fun _ t wr => ∃ i:Nat,i ≤ ds.length ∧ t = .int .i64 i ∧ Hid (∀ d ∈ ds.take i,q d) ∧ Hid (Below w.heap.size w wr)) (fun _ t _ => ds.length - (intOf t).toNat)
 case atStart => exact ⟨0,by omega,rfl,(fun d hd => by simp at hd),Below.refl _ _⟩
 case round =>
  obtain ⟨i,hi,rfl,hall,hb⟩:=hrel
  by_cases hlt:i < ds.length
  ·obtain ⟨b,off,rfl,hbl,hc⟩:=HR.out.at_ (HH.out.below hb.out) hlt (by omega)
   have c0:wr.cell? ⟨b,off + i * 6,none⟩ = some (f ds[i] 0):=hc 0 (by omega)
   have c1:wr.cell? ⟨b,off + i * 6 + 1,none⟩ = some (f ds[i] 1):=hc 1 (by omega)
   have c2:wr.cell? ⟨b,off + i * 6 + 2,none⟩ = some (f ds[i] 2):=hc 2 (by omega)
   have c3:wr.cell? ⟨b,off + i * 6 + 3,none⟩ = some (f ds[i] 3):=hc 3 (by omega)
   have c4:wr.cell? ⟨b,off + i * 6 + 4,none⟩ = some (f ds[i] 4):=hc 4 (by omega)
   have c5:wr.cell? ⟨b,off + i * 6 + 5,none⟩ = some (f ds[i] 5):=hc 5 (by omega)
   have HC:=Lib.hid (fun W hW => HP.out W ds[i] (List.getElem_mem hlt) hW)
   have ht2:Hid (q ds[i] → ∀ d ∈ ds.take (i + 1),q d):=fun h d hd => by
    rw [List.take_succ_eq_append_getElem hlt] at hd
    rcases List.mem_append.1 hd with hd | hd
    ·exact hall.out d hd
    ·rw [List.mem_singleton.1 hd];exact h
   clear hc
   generalize q ds[i] = qi at HC ht2
   generalize f ds[i] 0 = x0 at c0 HC
   generalize f ds[i] 1 = x1 at c1 HC
   generalize f ds[i] 2 = x2 at c2 HC
   generalize f ds[i] 3 = x3 at c3 HC
   generalize f ds[i] 4 = x4 at c4 HC
   generalize f ds[i] 5 = x5 at c5 HC
   go_wp2_with fail
   refine (HC.out _ (HH.out.below hb.out)).mono ?_
   rintro e w1 ⟨⟨x,rfl,hx⟩,hb1⟩
   have HX:=Lib.hid hx
   clear hx
   have hb2:=Lib.hid (hb.out.trans (hb1.mono hb.out.size))
   clear hb1 hb
   cases x with
   | true =>
    go_wp2_with fail
    go_ret
    exact ⟨⟨_,rfl,Or.inr ⟨i,rfl,hlt,hall.out⟩⟩,hb2.out⟩
   | false =>
    go_wp2_with fail
    go_roundw
    case rel => exact ⟨i + 1,by omega,by go_num,ht2.out (HX.out (by simp)),hb2⟩
    case measure => simp [intOf];omega
  ·have hf:Hid (∀ d ∈ ds,q d):=by have:=hall.out;rwa [List.take_of_length_le (by omega)] at this
   go_wp2_with fail
   go_ret
   exact ⟨⟨_,rfl,Or.inl ⟨rfl,hf.out⟩⟩,hb.out⟩
end
set_option maxHeartbeats 4000000 in
set_option maxRecDepth 100000 in
theorem deleteR_Ev (H:Frz) (kf:Nat) (caps:List Value) (q:EvD → Prop) (ds:List EvD)
  (hp:∀ (W:World) (d:EvD),d ∈ ds → H.In W → Calls Tryz.prog kf ((.agg #[.string d.id,.string d.name,.int .i64 d.at_,.int .i64 d.kind,.string d.text,.slice d.fa d.fields.length d.fc]:Value) :: caps).toArray W fun e W' => (∃ x:Bool,e = .returned (.bool x) ∧ (x = false → q d)) ∧ Below W.heap.size W W')
  (hcall:∀ (a:Value) (W:World),(callFunc kf (a :: caps).toArray).run Tryz.prog W = .ok (.enter kf (a :: caps).toArray) W)
  (B:Nat) (v:Value) (w:World) (hH:H.In w) (hO:Orow w B 42 6 fEv v ds) (hf:∀ r,v.ownBlock = some r → H r = none) (hl:ds.length ≤ 100000) :
  Calls Tryz.prog 41 #[v,.func (.func kf) #[] caps.toArray] w (DelRP q ds B v w):=by
 obtain ⟨A,cap,H',hv,hle,p1,p2,hR,p3,p4⟩:=hO.freeze H
 subst hv
 have hin:=p1 hH
 have hle2:=p2 hf
 have hp':∀ (W:World) (d:EvD),d ∈ ds → H'.In W → Calls Tryz.prog kf ((.agg #[fEv d 0,fEv d 1,fEv d 2,fEv d 3,fEv d 4,fEv d 5]:Value) :: caps).toArray W fun e W' => (∃ x:Bool,e = .returned (.bool x) ∧ (x = false → q d)) ∧ Below W.heap.size W W':=fun W d hd hW => hp W d hd (hle2.in_ hW)
 have HIX:=Lib.hid (fun W (hW:H'.In W) => indexR_Ev H' fEv kf caps q ds hp' hcall A cap W hW hR (by omega))
 have HO:=Lib.hid hO
 have HP:=Lib.hid hp
 go_enter Tryz.func41,Tryz.ntmps41
 have HIN:=Lib.hid hin
 have HH:=Lib.hid hH
 clear hp hp' hR hH hin hle2 p1 p2 p3 p4
 go_wp2_with fail
 refine (HIX.out w HIN.out).mono ?_
 rintro e w1 ⟨⟨n,rfl,hn⟩,hb⟩
 have HN:=Lib.hid hn
 clear hn HIX HIN
 rcases HN.out with ⟨rfl,hall⟩ | ⟨i,rfl,hi,hqs⟩
 ·have HF:Hid (DelRP q ds B (.slice A ds.length cap) w (.returned (.slice A ds.length cap)) w1):=⟨_,ds,rfl,List.Sublist.refl _,hall,HO.out.below hb,rfl,⟨hb.os,hb.tape,hb.output,hb.size,fun k hk _ => hb.block k hk⟩⟩
  clear hb hall hO hf
  go_wp2_with fail
  go_ret
  exact HF.out
 ·clear HN
  have hm1:((i:Int) == -1) = false:=by rw [beq_eq_false_iff_ne];omega
  have hD0:=Lib.hid (DelR.start hi hqs)
  obtain ⟨g,cap2,rest,hv2,hlc,hBg,hg,hm,hk,hr⟩:=hO.form (fun c => by subst c;exact absurd hi (by simp))
  injection hv2 with e1 e2 e3
  subst e1 e3
  have hgn:H g = none:=hf g rfl
  have HKB:=Lib.hid hk
  have HRE:=Lib.hid hr
  clear hO hf hk hr e2 HO hqs
  have hK1:=Lib.hid (HKB.out.keep hb)
  have hG1:Hid (w.grownBy w1 (some g)):=⟨hb.os,hb.tape,hb.output,hb.size,fun k hk _ => hb.block k hk⟩
  clear HKB
  go_wp2_with fail
  go_loopw [5,6,7] (fun t5 t6 _ wr => ∃ (i j:Nat) (cur:List EvD),t5 = .int .i64 i ∧ t6 = .int .i64 j ∧ Hid (DelR q ds cur i j) ∧ Hid (KBlk wr g 42 6 fEv cur rest) ∧ Hid (w.grownBy wr (some g))) (fun _ t _ _ => ds.length - (intOf t).toNat)
  case atStart => exact ⟨i,i + 1,ds,rfl,by go_num,hD0,hK1,hG1⟩
  case round =>
   obtain ⟨i,j,cur,rfl,rfl,hD,hk,hG⟩:=hrel
   clear hD0 hK1 hG1
   by_cases hj:j < ds.length
   ·have hjc:j < cur.length:=by rw [hD.out.len];exact hj
    have hcell:=hk.out.cell j
    have c0:wr.cell? ⟨g,j * 6,none⟩ = some (fEv ds[j] 0):=by have:=hk.out.cell j 0 hjc (by omega);rw [hD.out.at_ hj] at this;exact this
    have c1:wr.cell? ⟨g,j * 6 + 1,none⟩ = some (fEv ds[j] 1):=by have:=hk.out.cell j 1 hjc (by omega);rw [hD.out.at_ hj] at this;exact this
    have c2:wr.cell? ⟨g,j * 6 + 2,none⟩ = some (fEv ds[j] 2):=by have:=hk.out.cell j 2 hjc (by omega);rw [hD.out.at_ hj] at this;exact this
    have c3:wr.cell? ⟨g,j * 6 + 3,none⟩ = some (fEv ds[j] 3):=by have:=hk.out.cell j 3 hjc (by omega);rw [hD.out.at_ hj] at this;exact this
    have c4:wr.cell? ⟨g,j * 6 + 4,none⟩ = some (fEv ds[j] 4):=by have:=hk.out.cell j 4 hjc (by omega);rw [hD.out.at_ hj] at this;exact this
    have c5:wr.cell? ⟨g,j * 6 + 5,none⟩ = some (fEv ds[j] 5):=by have:=hk.out.cell j 5 hjc (by omega);rw [hD.out.at_ hj] at this;exact this
    clear hcell
    have hlen:cur.length = ds.length:=hD.out.len
    have hij:=hD.out.le
    have di:decide ((j:Int) < (ds.length:Int)) = true:=by simp;exact hj
    have HK:=Lib.hid (fun h:q ds[j] => hD.out.keep hj h)
    have HDr:=Lib.hid (hD.out.drop hj)
    have HC:=Lib.hid (fun W hW => HP.out W ds[j] (List.getElem_mem hj) hW)
    generalize hd:ds[j] = d at *
    clear hd
    simp only [fEv] at c0 c1 c2 c3 c4 c5
    have hcallj:=hcall (.agg #[.string d.id,.string d.name,.int .i64 d.at_,.int .i64 d.kind,.string d.text,.slice d.fa d.fields.length d.fc])
    have HIN9:=Lib.hid ((HH.out.grown hG.out hgn).alloc (.cells #[.string d.id,.string d.name,.int .i64 d.at_,.int .i64 d.kind,.string d.text,.slice d.fa d.fields.length d.fc] 42))
    have hb9:Below wr.heap.size wr (wr.alloc (.cells #[.string d.id,.string d.name,.int .i64 d.at_,.int .i64 d.kind,.string d.text,.slice d.fa d.fields.length d.fc] 42)):=(Below.refl _ _).alloc (Nat.le_refl _) _
    have hk9:=Lib.hid (hk.out.keep hb9)
    have hG9:Hid (w.grownBy (wr.alloc (.cells #[.string d.id,.string d.name,.int .i64 d.at_,.int .i64 d.kind,.string d.text,.slice d.fa d.fields.length d.fc] 42)) (some g)):=hG.out.trans ⟨hb9.os,hb9.tape,hb9.output,hb9.size,fun k hk _ => hb9.block k hk⟩
    have HX9:Hid ((wr.alloc (.cells #[.string d.id,.string d.name,.int .i64 d.at_,.int .i64 d.kind,.string d.text,.slice d.fa d.fields.length d.fc] 42)).heap[wr.heap.size]? = some (.cells #[.string d.id,.string d.name,.int .i64 d.at_,.int .i64 d.kind,.string d.text,.slice d.fa d.fields.length d.fc] 42)):=heap_alloc_new _ _
    clear hb9
    go_wp2_with fail
    refine (HC.out _ (HIN9.out)).mono ?_
    rintro e w2 ⟨⟨x,rfl,hx⟩,hb⟩
    have HXQ:=Lib.hid hx
    clear hx
    have hk2:=hk9.out.keep hb
    have hG2:Hid (w.grownBy w2 (some g)):=hG9.out.trans ⟨hb.os,hb.tape,hb.output,hb.size,fun k hk _ => hb.block k hk⟩
    have hx:=(hb.block _ (lt_of_heap HX9.out)).trans HX9.out
    have hin2:=HIN9.out.below hb
    have x0:w2.cell? ⟨wr.heap.size,0,none⟩ = some (.string d.id):=cell_h hx 0 rfl
    have x1:w2.cell? ⟨wr.heap.size,1,none⟩ = some (.string d.name):=cell_h hx 1 rfl
    have x2:w2.cell? ⟨wr.heap.size,2,none⟩ = some (.int .i64 d.at_):=cell_h hx 2 rfl
    have x3:w2.cell? ⟨wr.heap.size,3,none⟩ = some (.int .i64 d.kind):=cell_h hx 3 rfl
    have x4:w2.cell? ⟨wr.heap.size,4,none⟩ = some (.string d.text):=cell_h hx 4 rfl
    have x5:w2.cell? ⟨wr.heap.size,5,none⟩ = some (.slice d.fa d.fields.length d.fc):=cell_h hx 5 rfl
    clear hb hx c0 c1 c2 c3 c4 c5 hk hG hk9 hG9 HX9 HIN9
    cases x with
    | true =>
     have hD2:=HDr
     have HK2:=Lib.hid hk2
     clear HK hk2 hin2 hcallj
     go_wp2_with fail
     go_roundw
     case rel => exact ⟨i,j + 1,cur,rfl,by go_num,hD2,HK2,hG2⟩
     case measure => simp [intOf];omega
    | false =>
     have hic:i < cur.length:=by omega
     have hD2:=Lib.hid (HK.out (HXQ.out rfl))
     have HKP:=Lib.hid (hk2.put i hic d)
     have HGP:=Lib.hid (setK_grown (i * 6) ((List.range 6).map (fEv d)) hG2.out)
     have r0:=hk2.cell i 0 hic (by omega)
     have s0:=hk2.frozen (i * 6)
     have r1:=hk2.cell i 1 hic (by omega)
     have s1:=hk2.frozen (i * 6 + 1)
     have r2:=hk2.cell i 2 hic (by omega)
     have s2:=hk2.frozen (i * 6 + 2)
     have r3:=hk2.cell i 3 hic (by omega)
     have s3:=hk2.frozen (i * 6 + 3)
     have r4:=hk2.cell i 4 hic (by omega)
     have s4:=hk2.frozen (i * 6 + 4)
     have r5:=hk2.cell i 5 hic (by omega)
     have s5:=hk2.frozen (i * 6 + 5)
     simp only [Nat.add_zero] at r0
     clear HDr HK hk2 hin2 hcallj hG2
     go_wp2_with fail
     go_roundw
     case rel => exact ⟨i + 1,j + 1,cur.set i d,by go_num,by go_num,hD2,HKP,HGP⟩
     case measure => simp [intOf];omega
   ·have hje:j = ds.length:=by have:=hD.out.lt;omega
    subst hje
    have hlen:cur.length = ds.length:=hD.out.len
    have hij:=hD.out.le
    have hdone:=Lib.hid hD.out.done
    obtain ⟨z0,hz0⟩:∃ z:Value,z = .agg #[.string ⟨#[]⟩,.string ⟨#[]⟩,.int .i64 0,.int .i64 0,.string ⟨#[]⟩,.slice none 0 0]:=⟨_,rfl⟩
    have hzs:z0.cells.size = 6:=by rw [hz0];rfl
    have hmk:i * 6 + (ds.length - i) * 6 = ds.length * 6:=by omega
    have hcl:∀ ty,(Builtin.clear_ #[26] ty #[.slice (some ⟨g,i * 6,none⟩) (ds.length - i) (cap - i)]).run Tryz.prog wr = .ok (.tuple #[]) (setK wr g (i * 6) (Builtin.zeroCells z0.cells (ds.length - i)).toList) :=
     fun ty => run_clear_rows wr _ _ ty z0 Tryz.underlying26 (fun w => by rw [hz0];kernel_rfl) 6 hzs (by omega) (by rw [hz0];simp [Value.cells,Value.oneCell']) g (i * 6) _ _ (by omega) (fun q hq => by
      have h1:=hk.out.cell (i + q / 6) (q % 6) (by omega) (by omega)
      rw [show i * 6 + q = (i + q / 6) * 6 + q % 6 from by omega,h1];rfl) (fun q hq => hk.out.frozen _)
    have hKC:=Lib.hid (hk.out.cut (i:=i) (by omega) (Builtin.zeroCells z0.cells (ds.length - i)).toList (by rw [Array.length_toList,size_zeroCells,hzs];omega))
    have hGC:=Lib.hid (setK_grown (i * 6) (Builtin.zeroCells z0.cells (ds.length - i)).toList hG.out)
    have hLC:Hid ((Builtin.zeroCells z0.cells (ds.length - i)).toList.length = (ds.length - i) * 6):=by show _ = _;rw [Array.length_toList,size_zeroCells,hzs]
    generalize setK wr g (i * 6) (Builtin.zeroCells z0.cells (ds.length - i)).toList = w9 at *
    have HF:Hid (DelRP q ds B (.slice (some ⟨g,0,none⟩) ds.length cap) w (.returned (.slice (some ⟨g,0,none⟩) i cap)) w9):=by
     refine ⟨_,cur.take i,rfl,hdone.out.1,hdone.out.2,?_,rfl,hGC.out⟩
     have hli:(cur.take i).length = i:=by rw [List.length_take];omega
     have:=Orow.of_blk (cap:=cap) hKC.out hBg hm (by omega) (by rw [List.length_append,hLC.out,HRE.out,hli];omega)
     rw [hli] at this
     exact this
    clear hD hk hG hKC hGC hLC hz0 hzs hmk hdone
    go_wp2_with fail
    go_ret
    exact HF.out
end Go.Proofs.YtfmnlpmgakgleaaGreatDoor
