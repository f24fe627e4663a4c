/- Texts of this claim, put together: ChkT, ChkR, ChkS, ChkL. -/
import Derived.Test.YtcncifmanodabaaGreatDoorGAZ
namespace Go.Proofs.YtcncifmanodabaaGreatDoor
set_option linter.unusedVariables false
open Go.RowKit
def SzT (t:TchD):Prop:=t.source.size ≤ 1000000 ∧ (∀ x ∈ t.ids,x.text.size ≤ 1000000) ∧ (∀ f ∈ t.fields,f.name.size ≤ 1000000 ∧ f.v.text.size ≤ 1000000) ∧ t.ids.length ≤ 1000000 ∧ t.fields.length ≤ 1000000
theorem tch1_at {ok:ByteArray → Bool} {ts:List TchD} {i:Nat} (h:i < ts.length):tch1 ok ts i = tchE ok ts[i] (prevNo ts i):=by
 unfold tch1
 rw [List.getElem?_eq_getElem h]
theorem prevNo_succ {ts:List TchD} {i:Nat} (h:i < ts.length):prevNo ts (i + 1) = ts[i].no:=by
 simp only [prevNo,List.getElem?_eq_getElem h]
theorem within_dec {a b c:Int}:(decide (a ≤ b) && decide (b ≤ c)) = decide (a ≤ b ∧ b ≤ c):=by
 by_cases h:a ≤ b <;> by_cases h':b ≤ c <;> simp [h,h']
set_option maxHeartbeats 4000000 in
set_option maxRecDepth 100000 in
theorem checkTouch_any (H:Frz) (hU:UtfIn H) (hM:MLen H) (t:TchD) (before:Int) (w:World) (hH:H.In w) (hI:Rw H t.ia 2 fId t.ids) (hF:Rw H t.fa 4 fFd t.fields) (hsz:SzT t) :
  Calls Tryz.prog 116 #[.agg #[.int .i64 t.no,.int .i64 t.at_,.string t.source,.slice t.ia t.ids.length t.ic,.slice t.fa t.fields.length t.fc],.int .i64 before] w fun e w' => e = .returned (.int .i64 (tchE okT t before)) ∧ Below w.heap.size w w':=by
 obtain ⟨sz1,sz2,sz3,sz4,sz5⟩:=hsz
 have z0:(w.alloc (.cells #[.int .i64 t.no,.int .i64 t.at_,.string t.source,.slice t.ia t.ids.length t.ic,.slice t.fa t.fields.length t.fc] 91)).cell? ⟨w.heap.size,0,none⟩ = some (.int .i64 t.no):=newc 0 rfl
 have z1:(w.alloc (.cells #[.int .i64 t.no,.int .i64 t.at_,.string t.source,.slice t.ia t.ids.length t.ic,.slice t.fa t.fields.length t.fc] 91)).cell? ⟨w.heap.size,1,none⟩ = some (.int .i64 t.at_):=newc 1 rfl
 have z2:(w.alloc (.cells #[.int .i64 t.no,.int .i64 t.at_,.string t.source,.slice t.ia t.ids.length t.ic,.slice t.fa t.fields.length t.fc] 91)).cell? ⟨w.heap.size,2,none⟩ = some (.string t.source):=newc 2 rfl
 have z3:(w.alloc (.cells #[.int .i64 t.no,.int .i64 t.at_,.string t.source,.slice t.ia t.ids.length t.ic,.slice t.fa t.fields.length t.fc] 91)).cell? ⟨w.heap.size,3,none⟩ = some (.slice t.ia t.ids.length t.ic):=newc 3 rfl
 have z4:(w.alloc (.cells #[.int .i64 t.no,.int .i64 t.at_,.string t.source,.slice t.ia t.ids.length t.ic,.slice t.fa t.fields.length t.fc] 91)).cell? ⟨w.heap.size,4,none⟩ = some (.slice t.fa t.fields.length t.fc):=newc 4 rfl
 have HBN:=Lib.hid (new1 (w:=w) (.cells #[.int .i64 t.no,.int .i64 t.at_,.string t.source,.slice t.ia t.ids.length t.ic,.slice t.fa t.fields.length t.fc] 91))
 have HIN:=Lib.hid (hH.below HBN.out)
 have HCI:=Lib.hid (fun W (hW:H.In W) => pcheckIds_any H hM t.ia t.ic t.ids W hW hI sz4 sz2)
 have HCF:=Lib.hid (fun W (hW:H.In W) => checkFields_any H hU t.fa t.fc t.fields W hW hF sz5 sz3)
 have HV:Hid (∀ n,tchE okT t before = n → tchE okT t before = n):=fun _ h => h
 unfold tchE at HV
 clear hI hF sz2 sz3 hU hM hH
 by_cases g1:1 ≤ t.no ∧ t.no ≤ 1000000
 rotate_left
 ·have hv:Hid (tchE okT t before = 1):=by show _ = _;unfold tchE;rw [if_pos g1]
  have HD:Hid (decide (1 ≤ t.no ∧ t.no ≤ 1000000) = false):=decide_eq_false g1
  go_enter Tryz.func116,Tryz.ntmps116
  go_wp2_with fail
  refine (pwithin_any _ _ _ _).mono ?_
  rintro e w1 ⟨rfl,rfl⟩
  rw [within_dec,HD.out]
  go_wp2_with fail
  go_ret
  exact ⟨ret_int hv.out.symm,HBN.out⟩
 have HD1:Hid (decide (1 ≤ t.no ∧ t.no ≤ 1000000) = true):=decide_eq_true g1
 by_cases g2:0 ≤ t.at_ ∧ t.at_ ≤ 4321439
 rotate_left
 ·have hv:Hid (tchE okT t before = 1):=by show _ = _;unfold tchE;rw [if_neg (fun c => c g1),if_pos g2]
  have HD:Hid (decide (0 ≤ t.at_ ∧ t.at_ ≤ 4321439) = false):=decide_eq_false g2
  go_enter Tryz.func116,Tryz.ntmps116
  go_wp2_with fail
  refine (pwithin_any _ _ _ _).mono ?_
  rintro e w1 ⟨rfl,rfl⟩
  rw [within_dec,HD1.out]
  go_wp2_with fail
  refine (pwithin_any _ _ _ _).mono ?_
  rintro e w1 ⟨rfl,rfl⟩
  rw [within_dec,HD.out]
  go_wp2_with fail
  go_ret
  exact ⟨ret_int hv.out.symm,HBN.out⟩
 have HD2:Hid (decide (0 ≤ t.at_ ∧ t.at_ ≤ 4321439) = true):=decide_eq_true g2
 have HV2:Hid (tchE okT t before = if t.no ≤ before then 7 else if isKey t.source = false then 5 else if t.ids.length = 0 then 3 else if 10 < t.ids.length then 2 else if idsO t.ids ≠ 0 then idsO t.ids else fdsE okT t.fields):=by
  show _ = _;unfold tchE;rw [if_neg (fun c => c g1),if_neg (fun c => c g2)]
 clear HV g1 g2
 go_enter Tryz.func116,Tryz.ntmps116
 go_wp2_with fail
 refine (pwithin_any _ _ _ _).mono ?_
 rintro e w1 ⟨rfl,rfl⟩
 rw [within_dec,HD1.out]
 go_wp2_with fail
 refine (pwithin_any _ _ _ _).mono ?_
 rintro e w1 ⟨rfl,rfl⟩
 rw [within_dec,HD2.out]
 clear HD1 HD2
 by_cases g3:t.no ≤ before
 ·have d3:decide (t.no ≤ before) = true:=decide_eq_true g3
  have hv:Hid (tchE okT t before = 7):=by rw [if_pos g3] at HV2;exact HV2
  go_wp2_with fail
  go_ret
  exact ⟨ret_int hv.out.symm,HBN.out⟩
 have d3:decide (t.no ≤ before) = false:=decide_eq_false g3
 rw [if_neg g3] at HV2
 clear g3
 go_wp2_with fail
 refine (isKey_any t.source _ (by omega)).mono ?_
 rintro e w' ⟨rfl,rfl⟩
 generalize isKey t.source = k1 at HV2 ⊢
 cases k1 with
 | false =>
  rw [if_pos rfl] at HV2
  go_wp2_with fail
  go_ret
  exact ⟨ret_int HV2.out.symm,HBN.out⟩
 | true =>
  rw [if_neg (by simp)] at HV2
  by_cases g4:t.ids.length = 0
  ·have d4:((t.ids.length:Int) == 0) = true:=by simp;exact List.length_eq_zero_iff.1 g4
   rw [if_pos g4] at HV2
   clear g4
   go_wp2_with fail
   go_ret
   exact ⟨ret_int HV2.out.symm,HBN.out⟩
  have d4:((t.ids.length:Int) == 0) = false:=by simp;intro c;exact g4 (by rw [c];rfl)
  rw [if_neg g4] at HV2
  clear g4
  by_cases g5:10 < t.ids.length
  ·have d5:decide ((10:Int) < t.ids.length) = true:=by simp;omega
   rw [if_pos g5] at HV2
   clear g5
   go_wp2_with fail
   go_ret
   exact ⟨ret_int HV2.out.symm,HBN.out⟩
  have d5:decide ((10:Int) < t.ids.length) = false:=by simp;omega
  rw [if_neg g5] at HV2
  clear g5
  go_wp2_with fail
  refine (HCI.out _ HIN.out).mono ?_
  rintro e W2 ⟨rfl,hb2⟩
  have HB2:=Lib.hid (HBN.out.trans (hb2.mono HBN.out.size))
  have HIN2:=Lib.hid (HIN.out.below hb2)
  have y4:=lift_cell z4 W2 hb2
  clear hb2 z0 z1 z2 z3 z4
  generalize idsO t.ids = ie at HV2 ⊢
  by_cases g6:ie = 0
  ·have k3:(ie != 0) = false:=by simpa using g6
   rw [if_neg (by simpa using g6)] at HV2
   clear g6
   go_wp2_with fail
   refine (HCF.out _ HIN2.out).mono ?_
   rintro e W3 ⟨rfl,hb3⟩
   have HB3:=Lib.hid (HB2.out.trans (hb3.mono HB2.out.size))
   clear hb3
   go_wp2_with fail
   go_ret
   exact ⟨ret_int HV2.out.symm,HB3.out⟩
  ·have k3:(ie != 0) = true:=by simpa using g6
   rw [if_pos g6] at HV2
   clear g6
   go_wp2_with fail
   go_ret
   exact ⟨ret_int HV2.out.symm,HB2.out⟩
set_option maxHeartbeats 4000000 in
set_option maxRecDepth 100000 in
theorem checkTchs_any (H:Frz) (hU:UtfIn H) (hM:MLen H) (A:Option Addr) (cap:Nat) (ts:List TchD) (w:World) (hH:H.In w) (hT:TchIn H A ts) (hl:ts.length ≤ 1000000) (hsz:∀ t ∈ ts,SzT t) :
  Calls Tryz.prog 62 #[.slice A ts.length cap] w fun e w' => e = .returned (.int .i64 (tchsE okT ts)) ∧ Below w.heap.size w w':=by
 have HR:=Lib.hid hT.1
 have HH:=Lib.hid hH
 have HCT:=Lib.hid (fun t (ht:t ∈ ts) before W (hW:H.In W) => checkTouch_any H hU hM t before W hW (hT.2 t ht).1 (hT.2 t ht).2 (hsz t ht))
 clear hT hH hsz hU hM
 by_cases hlong:2000 < ts.length
 ·have h2:decide ((2000:Int) < ts.length) = true:=by simp;omega
  have hv:Hid (tchsE okT ts = 2):=by show _ = _;unfold tchsE;rw [if_pos hlong]
  clear hlong
  go_enter Tryz.func62,Tryz.ntmps62
  go_wp2_with fail
  go_ret
  exact ⟨ret_int hv.out.symm,Below.refl _ _⟩
 ·have h2:decide ((2000:Int) < ts.length) = false:=by simp;omega
  have HV:Hid (tchsE okT ts = fstErr (tch1 okT ts) ts.length):=by show _ = _;unfold tchsE;rw [if_neg hlong]
  clear hlong
  go_enter Tryz.func62,Tryz.ntmps62
  go_wp2_with fail
  go_loopw [3,12] (fun v t wr => ∃ i:Nat,i ≤ ts.length ∧ t = .int .i64 i ∧ v = .int .i64 (prevNo ts i) ∧ Hid (fstErr (tch1 okT ts) i = 0) ∧ Hid (Below w.heap.size w wr)) (fun _ t _ => ts.length - (intOf t).toNat)
  case atStart => exact ⟨0,by omega,rfl,rfl,rfl,Below.refl _ _⟩
  case round =>
   obtain ⟨i,hi,rfl,rfl,h0,hb⟩:=hrel
   by_cases hlt:i < ts.length
   ·have hin:=HH.out.below hb.out
    obtain ⟨b,off,rfl,hbl,hc⟩:=HR.out.at_ hin hlt (by omega)
    have c0:wr.cell? ⟨b,off + i * 5,none⟩ = some (.int .i64 ts[i].no):=hc 0 (by omega)
    have c1:wr.cell? ⟨b,off + i * 5 + 1,none⟩ = some (.int .i64 ts[i].at_):=hc 1 (by omega)
    have c2:wr.cell? ⟨b,off + i * 5 + 2,none⟩ = some (.string ts[i].source):=hc 2 (by omega)
    have c3:wr.cell? ⟨b,off + i * 5 + 3,none⟩ = some (.slice ts[i].ia ts[i].ids.length ts[i].ic):=hc 3 (by omega)
    have c4:wr.cell? ⟨b,off + i * 5 + 4,none⟩ = some (.slice ts[i].fa ts[i].fields.length ts[i].fc):=hc 4 (by omega)
    have HAT:=Lib.hid (tch1_at (ok:=okT) hlt)
    have HPN:=Lib.hid (prevNo_succ hlt)
    have HBAD:Hid (∀ n,tch1 okT ts i = n → n ≠ 0 → tchsE okT ts = n):=fun n h1 h2 => HV.out.trans ((fstErr_bad hlt h0.out (by rw [h1];exact h2)).trans h1)
    have HNX:Hid (tch1 okT ts i = 0 → fstErr (tch1 okT ts) (i + 1) = 0):=fun h1 => fstErr_next h0.out h1
    have HCD:=Lib.hid (HCT.out _ (List.getElem_mem hlt))
    clear hc
    generalize prevNo ts i = pn at *
    generalize ts[i] = d at *
    have z0:(wr.alloc (.cells #[.int .i64 d.no,.int .i64 d.at_,.string d.source,.slice d.ia d.ids.length d.ic,.slice d.fa d.fields.length d.fc] 91)).cell? ⟨wr.heap.size,0,none⟩ = some (.int .i64 d.no):=newc 0 rfl
    have z1:(wr.alloc (.cells #[.int .i64 d.no,.int .i64 d.at_,.string d.source,.slice d.ia d.ids.length d.ic,.slice d.fa d.fields.length d.fc] 91)).cell? ⟨wr.heap.size,1,none⟩ = some (.int .i64 d.at_):=newc 1 rfl
    have z2:(wr.alloc (.cells #[.int .i64 d.no,.int .i64 d.at_,.string d.source,.slice d.ia d.ids.length d.ic,.slice d.fa d.fields.length d.fc] 91)).cell? ⟨wr.heap.size,2,none⟩ = some (.string d.source):=newc 2 rfl
    have z3:(wr.alloc (.cells #[.int .i64 d.no,.int .i64 d.at_,.string d.source,.slice d.ia d.ids.length d.ic,.slice d.fa d.fields.length d.fc] 91)).cell? ⟨wr.heap.size,3,none⟩ = some (.slice d.ia d.ids.length d.ic):=newc 3 rfl
    have z4:(wr.alloc (.cells #[.int .i64 d.no,.int .i64 d.at_,.string d.source,.slice d.ia d.ids.length d.ic,.slice d.fa d.fields.length d.fc] 91)).cell? ⟨wr.heap.size,4,none⟩ = some (.slice d.fa d.fields.length d.fc):=newc 4 rfl
    have HBN:=Lib.hid (new1 (w:=wr) (.cells #[.int .i64 d.no,.int .i64 d.at_,.string d.source,.slice d.ia d.ids.length d.ic,.slice d.fa d.fields.length d.fc] 91))
    go_upto_region 7 with (fail)
    clear c0 c1 c2 c3 c4
    generalize wr.alloc (.cells #[.int .i64 d.no,.int .i64 d.at_,.string d.source,.slice d.ia d.ids.length d.ic,.slice d.fa d.fields.length d.fc] 91) = W1 at *
    have HB1:=Lib.hid (hb.out.trans (HBN.out.mono hb.out.size))
    have HIN1:=Lib.hid (hin.below HBN.out)
    clear hb h0 HBN hin
    go_wp2_with fail
    refine (HCD.out pn _ HIN1.out).mono ?_
    rintro e W2 ⟨rfl,hb2⟩
    have HB2:=Lib.hid (HB1.out.trans (hb2.mono HB1.out.size))
    have y0:=lift_cell z0 W2 hb2
    clear hb2 z0 z1 z2 z3 z4
    generalize tchE okT d pn = ie at HAT ⊢
    by_cases g3:ie = 0
    ·have k3:(ie != 0) = false:=by simpa using g3
     have hok:=Lib.hid (HNX.out (HAT.out.trans g3))
     clear g3
     go_wp2_with fail
     go_roundw
     case rel => exact ⟨i + 1,by omega,by go_num,by rw [HPN.out],hok,HB2⟩
     case measure => simp [intOf];omega
    ·have k3:(ie != 0) = true:=by simpa using g3
     have hv:=Lib.hid (HBAD.out ie HAT.out g3)
     clear g3
     go_wp2_with fail
     go_ret
     exact ⟨ret_int hv.out.symm,HB2.out⟩
   ·have hie:i = ts.length:=by omega
    subst hie
    have hv:=Lib.hid (HV.out.trans h0.out)
    go_wp2_with fail
    go_ret
    exact ⟨ret_int hv.out.symm,hb.out⟩
open Go.RowKit
theorem src1_at {ss:List ByteArray} {i:Nat} (h:i < ss.length):src1 ss i = if isKey ss[i] = false then 5 else if (ss.take i).any (eqS ss[i]) = true then 6 else 0:=by
 unfold src1
 rw [List.getElem?_eq_getElem h]
theorem any_step {ss:List ByteArray} {s:ByteArray} {q:Nat} (hq:q < ss.length) (h:(ss.take q).any (eqS s) = false) (h2:(ss[q].toList == s.toList) = false):(ss.take (q + 1)).any (eqS s) = false:=by
 rw [List.take_succ_eq_append_getElem hq,List.any_append,h]
 simp only [Bool.false_or,List.any_cons,List.any_nil,Bool.or_false]
 unfold eqS
 rw [Bool.beq_comm]
 exact h2
theorem any_hit {ss:List ByteArray} {s:ByteArray} {q i:Nat} (hq:q < i) (hi:i < ss.length) (h2:(ss[q].toList == s.toList) = true):(ss.take i).any (eqS s) = true:=by
 rw [List.any_eq_true]
 refine ⟨ss[q],?_,?_⟩
 ·rw [List.mem_take_iff_getElem]
  exact ⟨q,by omega,rfl⟩
 ·unfold eqS
  rw [Bool.beq_comm]
  exact h2
set_option maxHeartbeats 4000000 in
set_option maxRecDepth 100000 in
theorem checkSources_any (H:Frz) (s:SurD) (w:World) (hH:H.In w) (hR:Rw H s.sa 1 fS s.srcs) (hl:s.srcs.length ≤ 1000000) (hcap:s.srcs.length ≤ s.sc) (hsz:∀ x ∈ s.srcs,x.size ≤ 1000000) :
  Calls Tryz.prog 139 #[.agg #[.string s.name,.int .i64 s.how,.slice s.sa s.srcs.length s.sc]] w fun e w' => e = .returned (.int .i64 (srcsE s)) ∧ Below w.heap.size w w':=by
 obtain ⟨name,how,sa,sc,srcs⟩:=s
 dsimp only at *
 have HB:=Lib.hid (new1 (w:=w) (.cells #[.string name,.int .i64 how,.slice sa srcs.length sc] 196))
 have z1:(w.alloc (.cells #[.string name,.int .i64 how,.slice sa srcs.length sc] 196)).cell? ⟨w.heap.size,1,none⟩ = some (.int .i64 how):=newc 1 rfl
 have z2:(w.alloc (.cells #[.string name,.int .i64 how,.slice sa srcs.length sc] 196)).cell? ⟨w.heap.size,2,none⟩ = some (.slice sa srcs.length sc):=newc 2 rfl
 have HIN:=Lib.hid (hH.below HB.out)
 have HR:=Lib.hid hR
 have HS:=Lib.hid hsz
 clear hR hH hsz
 by_cases h0:0 < srcs.length
 ·by_cases hw:how = 5
  ·have d2:(how != 5) = false:=by simpa using hw
   have HV1:Hid (srcsE ⟨name,how,sa,sc,srcs⟩ = if 20 < srcs.length then 2 else fstErr (src1 srcs) srcs.length):=by show _ = _;unfold srcsE;rw [if_neg (fun c => c.2 hw)]
   clear hw
   by_cases hlong:20 < srcs.length
   ·have hv:Hid (srcsE ⟨name,how,sa,sc,srcs⟩ = 2):=by rw [if_pos hlong] at HV1;exact HV1
    go_enter Tryz.func139,Tryz.ntmps139
    go_wp2_with fail
    go_ret
    exact ⟨ret_int hv.out.symm,HB.out⟩
   rw [if_neg hlong] at HV1
   go_enter Tryz.func139,Tryz.ntmps139
   go_wp2_with fail
   clear h0
   go_loopw [25] (fun t wr => ∃ i:Nat,i ≤ srcs.length ∧ t = .int .i64 i ∧ Hid (fstErr (src1 srcs) i = 0) ∧ Hid (wr = w.alloc (.cells #[.string name,.int .i64 how,.slice sa srcs.length sc] 196))) (fun t _ => srcs.length - (intOf t).toNat)
   case atStart => exact ⟨0,by omega,rfl,rfl,rfl⟩
   case round =>
    obtain ⟨i,hi,rfl,h0,hwr⟩:=hrel
    have hwr:=hwr.out
    subst hwr
    generalize w.alloc (.cells #[.string name,.int .i64 how,.slice sa srcs.length sc] 196) = W1 at *
    by_cases hlt:i < srcs.length
    ·obtain ⟨b,off,rfl,hbl,hc⟩:=HR.out.at_ HIN.out hlt (by omega)
     have c0:W1.cell? ⟨b,off + i,none⟩ = some (.string srcs[i]):=by simpa [fS] using hc 0 (by omega)
     have HAT:=Lib.hid (src1_at hlt)
     have HBAD:Hid (∀ n,src1 srcs i = n → n ≠ 0 → srcsE ⟨name,how,some ⟨b,off,none⟩,sc,srcs⟩ = n):=fun n h1 h2 => HV1.out.trans ((fstErr_bad hlt h0.out (by rw [h1];exact h2)).trans h1)
     have HNX:Hid (src1 srcs i = 0 → fstErr (src1 srcs) (i + 1) = 0):=fun h1 => fstErr_next h0.out h1
     have hks:=HS.out _ (List.getElem_mem hlt)
     have HCQ:Hid (∀ q (hq:q < srcs.length),W1.cell? ⟨b,off + q,none⟩ = some (.string srcs[q])):=fun q hq => by
      obtain ⟨b',off',hA',hbl',hc'⟩:=HR.out.at_ HIN.out hq (by omega)
      simp only [Option.some.injEq,Addr.mk.injEq] at hA'
      obtain ⟨rfl,rfl,_⟩:=hA'
      simpa [fS] using hc' 0 (by omega)
     have HHIT:Hid (∀ q (hq:q < i) (hq2:q < srcs.length),(srcs[q].toList == srcs[i].toList) = true → (srcs.take i).any (eqS srcs[i]) = true):=fun q hq hq2 h => any_hit hq hlt h
     have HSTEP:Hid (∀ q (hq2:q < srcs.length),(srcs.take q).any (eqS srcs[i]) = false → (srcs[q].toList == srcs[i].toList) = false → (srcs.take (q + 1)).any (eqS srcs[i]) = false):=fun q hq2 h h2 => any_step hq2 h h2
     clear hc
     generalize srcs[i] = d at *
     go_wp2_with fail
     refine (isKey_any d _ (by omega)).mono ?_
     rintro e w' ⟨rfl,rfl⟩
     generalize isKey d = k1 at HAT
     cases k1 with
     | false =>
      have hv:=Lib.hid (HBAD.out 5 (HAT.out.trans (if_pos rfl)) (by omega))
      go_wp2_with fail
      go_ret
      exact ⟨ret_int hv.out.symm,HB.out⟩
     | true =>
      have HA1:=Lib.hid (HAT.out.trans (if_neg (by simp)))
      clear HAT
      have hisc:(i:Int) ≤ sc:=by omega
      have hisc2:i ≤ sc:=by omega
      go_wp2_with fail
      go_loopw [38] (fun t wr => ∃ q:Nat,q ≤ i ∧ t = .int .i64 q ∧ Hid ((srcs.take q).any (eqS d) = false) ∧ Hid (wr = W1)) (fun t _ => i - (intOf t).toNat)
      case atStart => exact ⟨0,by omega,rfl,rfl,rfl⟩
      case round =>
       obtain ⟨q,hq,rfl,h1,hwr⟩:=hrel
       have hwr:=hwr.out
       subst hwr
       by_cases hlt2:q < i
       ·have hq2:q < srcs.length:=by omega
        have c1:=HCQ.out q hq2
        have HH2:=Lib.hid (HHIT.out q hlt2 hq2)
        have HS2:=Lib.hid (HSTEP.out q hq2 h1.out)
        generalize srcs[q] = x at *
        cases hx:(x.toList == d.toList) with
        | true =>
         have hv:=Lib.hid (HBAD.out 6 (HA1.out.trans (if_pos (HH2.out hx))) (by omega))
         go_wp2_with fail
         go_ret
         exact ⟨ret_int hv.out.symm,HB.out⟩
        | false =>
         have hok:=Lib.hid (HS2.out hx)
         go_wp2_with fail
         go_roundw
         case rel => exact ⟨q + 1,by omega,by go_num,hok,(by first | exact rfl | exact trivial)⟩
         case measure => simp [intOf];omega
       ·have hie:q = i:=by omega
        subst hie
        have hok:=Lib.hid (HNX.out (HA1.out.trans (if_neg (by rw [h1.out];simp))))
        go_wp2_with fail
        go_roundw
        case rel => exact ⟨q + 1,by omega,by go_num,hok,(by first | exact rfl | exact trivial)⟩
        case measure => simp [intOf];omega
    ·have hie:i = srcs.length:=by omega
     subst hie
     have hv:=Lib.hid (HV1.out.trans h0.out)
     go_wp2_with fail
     refine bodyPost_ret (v:=.int .i64 0) (by kernel_rfl) rfl ?_
     exact ⟨ret_int hv.out.symm,HB.out⟩
  ·have d2:(how != 5) = true:=by simpa using hw
   have hv:Hid (srcsE ⟨name,how,sa,sc,srcs⟩ = 3):=by show _ = _;unfold srcsE;rw [if_pos ⟨h0,hw⟩]
   clear hw
   go_enter Tryz.func139,Tryz.ntmps139
   go_wp2_with fail
   go_ret
   exact ⟨ret_int hv.out.symm,HB.out⟩
 ·have HV1:Hid (srcsE ⟨name,how,sa,sc,srcs⟩ = if 20 < srcs.length then 2 else fstErr (src1 srcs) srcs.length):=by show _ = _;unfold srcsE;rw [if_neg (fun c => h0 c.1)]
  by_cases hlong:20 < srcs.length
  ·exact absurd hlong (by omega)
  rw [if_neg hlong] at HV1
  go_enter Tryz.func139,Tryz.ntmps139
  go_wp2_with fail
  clear h0
  go_loopw [25] (fun t wr => ∃ i:Nat,i ≤ srcs.length ∧ t = .int .i64 i ∧ Hid (fstErr (src1 srcs) i = 0) ∧ Hid (wr = w.alloc (.cells #[.string name,.int .i64 how,.slice sa srcs.length sc] 196))) (fun t _ => srcs.length - (intOf t).toNat)
  case atStart => exact ⟨0,by omega,rfl,rfl,rfl⟩
  case round =>
   obtain ⟨i,hi,rfl,h0,hwr⟩:=hrel
   have hwr:=hwr.out
   subst hwr
   generalize w.alloc (.cells #[.string name,.int .i64 how,.slice sa srcs.length sc] 196) = W1 at *
   by_cases hlt:i < srcs.length
   ·obtain ⟨b,off,rfl,hbl,hc⟩:=HR.out.at_ HIN.out hlt (by omega)
    have c0:W1.cell? ⟨b,off + i,none⟩ = some (.string srcs[i]):=by simpa [fS] using hc 0 (by omega)
    have HAT:=Lib.hid (src1_at hlt)
    have HBAD:Hid (∀ n,src1 srcs i = n → n ≠ 0 → srcsE ⟨name,how,some ⟨b,off,none⟩,sc,srcs⟩ = n):=fun n h1 h2 => HV1.out.trans ((fstErr_bad hlt h0.out (by rw [h1];exact h2)).trans h1)
    have HNX:Hid (src1 srcs i = 0 → fstErr (src1 srcs) (i + 1) = 0):=fun h1 => fstErr_next h0.out h1
    have hks:=HS.out _ (List.getElem_mem hlt)
    have HCQ:Hid (∀ q (hq:q < srcs.length),W1.cell? ⟨b,off + q,none⟩ = some (.string srcs[q])):=fun q hq => by
     obtain ⟨b',off',hA',hbl',hc'⟩:=HR.out.at_ HIN.out hq (by omega)
     simp only [Option.some.injEq,Addr.mk.injEq] at hA'
     obtain ⟨rfl,rfl,_⟩:=hA'
     simpa [fS] using hc' 0 (by omega)
    have HHIT:Hid (∀ q (hq:q < i) (hq2:q < srcs.length),(srcs[q].toList == srcs[i].toList) = true → (srcs.take i).any (eqS srcs[i]) = true):=fun q hq hq2 h => any_hit hq hlt h
    have HSTEP:Hid (∀ q (hq2:q < srcs.length),(srcs.take q).any (eqS srcs[i]) = false → (srcs[q].toList == srcs[i].toList) = false → (srcs.take (q + 1)).any (eqS srcs[i]) = false):=fun q hq2 h h2 => any_step hq2 h h2
    clear hc
    generalize srcs[i] = d at *
    go_wp2_with fail
    refine (isKey_any d _ (by omega)).mono ?_
    rintro e w' ⟨rfl,rfl⟩
    generalize isKey d = k1 at HAT
    cases k1 with
    | false =>
     have hv:=Lib.hid (HBAD.out 5 (HAT.out.trans (if_pos rfl)) (by omega))
     go_wp2_with fail
     go_ret
     exact ⟨ret_int hv.out.symm,HB.out⟩
    | true =>
     have HA1:=Lib.hid (HAT.out.trans (if_neg (by simp)))
     clear HAT
     have hisc:(i:Int) ≤ sc:=by omega
     have hisc2:i ≤ sc:=by omega
     go_wp2_with fail
     go_loopw [38] (fun t wr => ∃ q:Nat,q ≤ i ∧ t = .int .i64 q ∧ Hid ((srcs.take q).any (eqS d) = false) ∧ Hid (wr = W1)) (fun t _ => i - (intOf t).toNat)
     case atStart => exact ⟨0,by omega,rfl,rfl,rfl⟩
     case round =>
      obtain ⟨q,hq,rfl,h1,hwr⟩:=hrel
      have hwr:=hwr.out
      subst hwr
      by_cases hlt2:q < i
      ·have hq2:q < srcs.length:=by omega
       have c1:=HCQ.out q hq2
       have HH2:=Lib.hid (HHIT.out q hlt2 hq2)
       have HS2:=Lib.hid (HSTEP.out q hq2 h1.out)
       generalize srcs[q] = x at *
       cases hx:(x.toList == d.toList) with
       | true =>
        have hv:=Lib.hid (HBAD.out 6 (HA1.out.trans (if_pos (HH2.out hx))) (by omega))
        go_wp2_with fail
        go_ret
        exact ⟨ret_int hv.out.symm,HB.out⟩
       | false =>
        have hok:=Lib.hid (HS2.out hx)
        go_wp2_with fail
        go_roundw
        case rel => exact ⟨q + 1,by omega,by go_num,hok,(by first | exact rfl | exact trivial)⟩
        case measure => simp [intOf];omega
      ·have hie:q = i:=by omega
       subst hie
       have hok:=Lib.hid (HNX.out (HA1.out.trans (if_neg (by rw [h1.out];simp))))
       go_wp2_with fail
       go_roundw
       case rel => exact ⟨q + 1,by omega,by go_num,hok,(by first | exact rfl | exact trivial)⟩
       case measure => simp [intOf];omega
   ·have hie:i = srcs.length:=by omega
    subst hie
    have hv:=Lib.hid (HV1.out.trans h0.out)
    go_wp2_with fail
    refine bodyPost_ret (v:=.int .i64 0) (by kernel_rfl) rfl ?_
    exact ⟨ret_int hv.out.symm,HB.out⟩
open Go.RowKit
theorem sur1_at {us:List SurD} {i:Nat} (h:i < us.length):sur1 us i = if isKey us[i].name = false then 5 else if ¬ (1 ≤ us[i].how ∧ us[i].how ≤ 7) then 4 else if srcsE us[i] ≠ 0 then srcsE us[i] else if 0 < i ∧ 0 ≤ cmpS (us.getD (i - 1) us[i]).name us[i].name then 7 else 0:=by
 unfold sur1
 rw [List.getElem?_eq_getElem h]
def SzS (s:SurD):Prop:=s.name.size ≤ 1000000 ∧ s.srcs.length ≤ 1000000 ∧ s.srcs.length ≤ s.sc ∧ ∀ x ∈ s.srcs,x.size ≤ 1000000
set_option maxHeartbeats 4000000 in
set_option maxRecDepth 100000 in
theorem checkSurvive_any (H:Frz) (A:Option Addr) (cap:Nat) (us:List SurD) (w:World) (hH:H.In w) (hR:Rw H A 3 fSur us) (hX:∀ x ∈ us,Rw H x.sa 1 fS x.srcs) (hl:us.length ≤ 1000000) (hsz:∀ s ∈ us,SzS s) :
  Calls Tryz.prog 115 #[.slice A us.length cap] w fun e w' => e = .returned (.int .i64 (sursE us)) ∧ Below w.heap.size w w':=by
 have HR:=Lib.hid hR
 have HH:=Lib.hid hH
 have HS:=Lib.hid hsz
 have HCV:=Lib.hid (fun s (hs:s ∈ us) W (hW:H.In W) => checkSources_any H s W hW (hX s hs) (hsz s hs).2.1 (hsz s hs).2.2.1 (hsz s hs).2.2.2)
 clear hR hH hsz hX
 by_cases hlong:30 < us.length
 ·have h2:decide ((30:Int) < us.length) = true:=by simp;omega
  have hv:Hid (sursE us = 2):=by show _ = _;unfold sursE;rw [if_pos hlong]
  clear hlong
  go_enter Tryz.func115,Tryz.ntmps115
  go_wp2_with fail
  go_ret
  exact ⟨ret_int hv.out.symm,Below.refl _ _⟩
 ·have h2:decide ((30:Int) < us.length) = false:=by simp;omega
  have HV:Hid (sursE us = fstErr (sur1 us) us.length):=by show _ = _;unfold sursE;rw [if_neg hlong]
  clear hlong
  go_enter Tryz.func115,Tryz.ntmps115
  go_wp2_with fail
  go_loopw [11] (fun t wr => ∃ i:Nat,i ≤ us.length ∧ t = .int .i64 i ∧ Hid (fstErr (sur1 us) i = 0) ∧ Hid (Below w.heap.size w wr)) (fun t _ => us.length - (intOf t).toNat)
  case atStart => exact ⟨0,by omega,rfl,rfl,Below.refl _ _⟩
  case round =>
   obtain ⟨i,hi,rfl,h0,hb⟩:=hrel
   by_cases hlt:i < us.length
   ·have hin:=HH.out.below hb.out
    obtain ⟨b,off,hA,hbl,hc⟩:=HR.out.at_ hin hlt (by omega)
    have hprev:Hid (∀ p,i = p + 1 → ∀ W',Below wr.heap.size wr W' → W'.cell? ⟨b,off + p * 3,none⟩ = some (.string (us.getD (i - 1) us[i]).name)):=by
     rintro p rfl W' hW'
     have hp:p < us.length:=by omega
     obtain ⟨b',off',hA',hbl',hc'⟩:=HR.out.at_ hin hp (by omega)
     rw [hA] at hA'
     simp only [Option.some.injEq,Addr.mk.injEq] at hA'
     obtain ⟨rfl,rfl,_⟩:=hA'
     rw [Nat.add_sub_cancel,List.getD_eq_getElem?_getD,List.getElem?_eq_getElem hp,Option.getD_some]
     exact lift_cell (hc' 0 (by omega)) W' hW'
    subst hA
    have c0:wr.cell? ⟨b,off + i * 3,none⟩ = some (.string us[i].name):=hc 0 (by omega)
    have c1:wr.cell? ⟨b,off + i * 3 + 1,none⟩ = some (.int .i64 us[i].how):=hc 1 (by omega)
    have c2:wr.cell? ⟨b,off + i * 3 + 2,none⟩ = some (.slice us[i].sa us[i].srcs.length us[i].sc):=hc 2 (by omega)
    have HAT:=Lib.hid (sur1_at hlt)
    have HBAD:Hid (∀ n,sur1 us i = n → n ≠ 0 → sursE us = n):=fun n h1 h2 => HV.out.trans ((fstErr_bad hlt h0.out (by rw [h1];exact h2)).trans h1)
    have HNX:Hid (sur1 us i = 0 → fstErr (sur1 us) (i + 1) = 0):=fun h1 => fstErr_next h0.out h1
    have hks:=(HS.out _ (List.getElem_mem hlt)).1
    have HCD:=Lib.hid (HCV.out _ (List.getElem_mem hlt))
    clear hc
    generalize (us.getD (i - 1) us[i]).name = pn at *
    generalize us[i] = d at *
    have z0:(wr.alloc (.cells #[.string d.name,.int .i64 d.how,.slice d.sa d.srcs.length d.sc] 196)).cell? ⟨wr.heap.size,0,none⟩ = some (.string d.name):=newc 0 rfl
    have z1:(wr.alloc (.cells #[.string d.name,.int .i64 d.how,.slice d.sa d.srcs.length d.sc] 196)).cell? ⟨wr.heap.size,1,none⟩ = some (.int .i64 d.how):=newc 1 rfl
    have z2:(wr.alloc (.cells #[.string d.name,.int .i64 d.how,.slice d.sa d.srcs.length d.sc] 196)).cell? ⟨wr.heap.size,2,none⟩ = some (.slice d.sa d.srcs.length d.sc):=newc 2 rfl
    have HBN:=Lib.hid (new1 (w:=wr) (.cells #[.string d.name,.int .i64 d.how,.slice d.sa d.srcs.length d.sc] 196))
    go_upto_region 6 with (fail)
    clear c0 c1 c2
    generalize wr.alloc (.cells #[.string d.name,.int .i64 d.how,.slice d.sa d.srcs.length d.sc] 196) = W1 at *
    have HB1:=Lib.hid (hb.out.trans (HBN.out.mono hb.out.size))
    have HBN2:=Lib.hid HBN.out
    have HIN1:=Lib.hid (hin.below HBN.out)
    clear hb h0 HBN hin
    go_wp2_with fail
    refine (isKey_any d.name _ (by omega)).mono ?_
    rintro e w' ⟨rfl,rfl⟩
    generalize isKey d.name = k1 at HAT
    cases k1 with
    | false =>
     have hv:=Lib.hid (HBAD.out 5 (HAT.out.trans (if_pos rfl)) (by omega))
     go_wp2_with fail
     go_ret
     exact ⟨ret_int hv.out.symm,HB1.out⟩
    | true =>
     have HA1:=Lib.hid (HAT.out.trans (if_neg (by simp)))
     clear HAT
     go_wp2_with fail
     refine (pwithin_any _ _ _ _).mono ?_
     rintro e w9 ⟨rfl,rfl⟩
     rw [within_dec]
     by_cases g2:1 ≤ d.how ∧ d.how ≤ 7
     rotate_left
     ·have hv:=Lib.hid (HBAD.out 4 (HA1.out.trans (if_pos g2)) (by omega))
      rw [decide_eq_false g2]
      clear g2
      go_wp2_with fail
      go_ret
      exact ⟨ret_int hv.out.symm,HB1.out⟩
     have HA2:=Lib.hid (HA1.out.trans (if_neg (fun c => c g2)))
     rw [decide_eq_true g2]
     clear g2 HA1
     have J0:=lift_cell z0
     go_wp2_with fail
     refine (HCD.out _ HIN1.out).mono ?_
     rintro e W2 ⟨rfl,hb2⟩
     have HB2:=Lib.hid (HB1.out.trans (hb2.mono HB1.out.size))
     have HIN2:=Lib.hid (HIN1.out.below hb2)
     have J2:∀ W,Below W2.heap.size W2 W → W.cell? ⟨wr.heap.size,0,none⟩ = some (.string d.name):=fun W hW => J0 W (hb2.trans (hW.mono hb2.size))
     have HBN3:=Lib.hid (HBN2.out.trans (hb2.mono HBN2.out.size))
     generalize srcsE d = ie at HA2 ⊢
     clear hb2 z0 z1 z2 J0
     by_cases g3:ie = 0
     ·have k3:(ie != 0) = false:=by simpa using g3
      have HA3:=Lib.hid (HA2.out.trans (if_neg (by simpa using g3)))
      clear g3 HA2
      go_wp2_with fail
      rcases Nat.eq_zero_or_pos i with h0 | hpos
      ·have d2:decide ((0:Int) < (i:Int)) = false:=by simp;omega
       have hok:=Lib.hid (HNX.out (HA3.out.trans (if_neg (by omega))))
       clear h0
       (refine wp_region_det 12 45 (fun W => Below (W2).heap.size (W2) W) (by kernel_rfl) (by kernel_rfl) (by rfl) (Below.refl _ _).drew ?_;simp only [List.take_succ_cons,List.take_zero,List.drop_succ_cons,List.drop_zero])
       iterate 1 (refine detSeq_op rfl ?_ (fun W hW => ?_) ?_;rotate_left;(focus simp only [OpV];go_simp;first | exact rfl | exact ⟨rfl,hW⟩))
       (refine detSeq_op rfl (.bool false) (fun W hW => ?_) ?_;focus (simp only [OpV];go_simp;try (first | exact rfl | exact hW | (have h9:=d2;simp at h9;omega))))
       iterate 1 (refine detSeq_op rfl ?_ (fun W hW => ?_) ?_;rotate_left;(focus simp only [OpV];go_simp;first | exact rfl | exact ⟨rfl,hW⟩))
       iterate 9 (refine detSeq_no (by kernel_rfl) ?_)
       refine detSeq_nil (fun W3 hW3 => ?_)
       have HB3:=Lib.hid (HB2.out.trans (hW3.mono HB2.out.size))
       clear J2 hW3
       go_wp2_with fail
       go_roundw
       case rel => exact ⟨i + 1,by omega,by go_num,hok,HB3⟩
       case measure => simp [intOf];omega
      ·obtain ⟨p,hp⟩:∃ p,i = p + 1:=⟨i - 1,by omega⟩
       have d2:decide ((0:Int) < (i:Int)) = true:=by simp;omega
       have a1:IntKind.i64.wrap ((i:Int) - 1) = (p:Int):=by rw [show (i:Int) - 1 = p from by omega];exact IntWalk.i64_in _ (by omega)
       have a6:IntKind.i64.wrap (p:Int) = (p:Int):=IntWalk.i64_in _ (by omega)
       have a2:(i:Int) - 1 = (p:Int):=by omega
       have a3:(p:Int) < us.length:=by omega
       have a4:(0:Int) ≤ (p:Int):=by omega
       have a5:p < us.length:=by omega
       have K0:∀ W,Below W2.heap.size W2 W → W.cell? ⟨b,off + p * 3,none⟩ = some (.string pn):=fun W hW => hprev.out p hp W (HBN3.out.trans (hW.mono HBN3.out.size))
       have HPOS:Hid (0 < i):=hpos
       clear hp hpos
       (refine wp_region_det 12 45 (fun W => Below (W2).heap.size (W2) W) (by kernel_rfl) (by kernel_rfl) (by rfl) (Below.refl _ _).drew ?_;simp only [List.take_succ_cons,List.take_zero,List.drop_succ_cons,List.drop_zero])
       iterate 1 (refine detSeq_op rfl ?_ (fun W hW => ?_) ?_;rotate_left;(focus simp only [OpV];go_simp;first | exact rfl | exact ⟨rfl,hW⟩))
       (refine detSeq_op rfl (.bool true) (fun W hW => ?_) ?_;focus (simp only [OpV];go_simp;try (first | exact rfl | exact hW | (have h9:=d2;simp at h9;omega))))
       iterate 1 (refine detSeq_op rfl ?_ (fun W hW => ?_) ?_;rotate_left;(focus simp only [OpV];go_simp;first | exact rfl | exact ⟨rfl,hW⟩))
       iterate 4 (refine detSeq_yes (by kernel_rfl) ?_ (fun W hW => ?_) ?_;rotate_left;(focus simp only [OpV];go_simp;first | exact rfl | exact ⟨rfl,hW⟩))
       (refine detSeq_yes (by kernel_rfl) (.int .i64 (p:Int)) (fun W hW => ?_) ?_;focus (simp only [OpV];go_simp;try (first | exact rfl | exact hW | omega)))
       iterate 3 (refine detSeq_yes (by kernel_rfl) ?_ (fun W hW => ?_) ?_;rotate_left;(focus simp only [OpV];go_simp;first | exact rfl | exact ⟨rfl,hW⟩))
       (refine detSeq_yes (by kernel_rfl) (.bool (leB d.name pn)) (fun W hW => ?_) ?_;focus (simp only [OpV];go_simp;try (first | exact rfl | exact hW | exact ⟨rfl,hW⟩)))
       refine detSeq_nil (fun W3 hW3 => ?_)
       have HB3:=Lib.hid (HB2.out.trans (hW3.mono HB2.out.size))
       clear J2 K0 hW3
       have HLE:=Lib.hid (leB_iff d.name pn)
       generalize leB d.name pn = le at HLE ⊢
       cases le with
       | true =>
        have hv:=Lib.hid (HBAD.out 7 (HA3.out.trans (if_pos ⟨HPOS.out,HLE.out.1 rfl⟩)) (by omega))
        go_wp2_with fail
        go_ret
        exact ⟨ret_int hv.out.symm,HB3.out⟩
       | false =>
        have hok:=Lib.hid (HNX.out (HA3.out.trans (if_neg (fun c => by have:=HLE.out.2 c.2;cases this))))
        go_wp2_with fail
        go_roundw
        case rel => exact ⟨i + 1,by omega,by go_num,hok,HB3⟩
        case measure => simp [intOf];omega
     ·have k3:(ie != 0) = true:=by simpa using g3
      have hv:=Lib.hid (HBAD.out ie (HA2.out.trans (if_pos g3)) g3)
      clear g3
      go_wp2_with fail
      go_ret
      exact ⟨ret_int hv.out.symm,HB2.out⟩
   ·have hie:i = us.length:=by omega
    subst hie
    have hv:=Lib.hid (HV.out.trans h0.out)
    go_wp2_with fail
    go_ret
    exact ⟨ret_int hv.out.symm,hb.out⟩
open Go.RowKit
theorem kd1_at {ks:List Int} {i:Nat} (h:i < ks.length):kd1 ks i = if ¬ (1 ≤ ks[i] ∧ ks[i] ≤ 4) then 4 else if 0 < i ∧ ks[i] ≤ ks.getD (i - 1) ks[i] then 7 else 0:=by
 unfold kd1
 rw [List.getElem?_eq_getElem h]
structure SzR (r:RulD):Prop where
 k:r.kinds.length ≤ 1000000
 w:r.weaks.length ≤ 1000000
 wt:∀ x ∈ r.weaks,x.text.size ≤ 1000000
 u:r.surs.length ≤ 1000000
 us:∀ s ∈ r.surs,SzS s
set_option maxHeartbeats 8000000 in
set_option maxRecDepth 100000 in
theorem checkRules_any (H:Frz) (hM:MLen H) (r:RulD) (w:World) (hH:H.In w) (hR:RulIn H r) (hz:SzR r) :
  Calls Tryz.prog 61 #[.agg #[.slice r.ka r.kinds.length r.kc,.int .i64 r.most,.slice r.wa r.weaks.length r.wc,.slice r.sa r.surs.length r.sc]] w fun e w' => e = .returned (.int .i64 (rulE r)) ∧ Below w.heap.size w w':=by
 have z0:(w.alloc (.cells #[.slice r.ka r.kinds.length r.kc,.int .i64 r.most,.slice r.wa r.weaks.length r.wc,.slice r.sa r.surs.length r.sc] 60)).cell? ⟨w.heap.size,0,none⟩ = some (.slice r.ka r.kinds.length r.kc):=newc 0 rfl
 have z1:(w.alloc (.cells #[.slice r.ka r.kinds.length r.kc,.int .i64 r.most,.slice r.wa r.weaks.length r.wc,.slice r.sa r.surs.length r.sc] 60)).cell? ⟨w.heap.size,1,none⟩ = some (.int .i64 r.most):=newc 1 rfl
 have z2:(w.alloc (.cells #[.slice r.ka r.kinds.length r.kc,.int .i64 r.most,.slice r.wa r.weaks.length r.wc,.slice r.sa r.surs.length r.sc] 60)).cell? ⟨w.heap.size,2,none⟩ = some (.slice r.wa r.weaks.length r.wc):=newc 2 rfl
 have z3:(w.alloc (.cells #[.slice r.ka r.kinds.length r.kc,.int .i64 r.most,.slice r.wa r.weaks.length r.wc,.slice r.sa r.surs.length r.sc] 60)).cell? ⟨w.heap.size,3,none⟩ = some (.slice r.sa r.surs.length r.sc):=newc 3 rfl
 have HBN:=Lib.hid (new1 (w:=w) (.cells #[.slice r.ka r.kinds.length r.kc,.int .i64 r.most,.slice r.wa r.weaks.length r.wc,.slice r.sa r.surs.length r.sc] 60))
 have HIN:=Lib.hid (hH.below HBN.out)
 have HCI:=Lib.hid (fun W (hW:H.In W) => pcheckIds_any H hM r.wa r.wc r.weaks W hW hR.w hz.w hz.wt)
 have HCS:=Lib.hid (fun W (hW:H.In W) => checkSurvive_any H r.sa r.sc r.surs W hW hR.u hR.s hz.u hz.us)
 have HK:=Lib.hid hR.k
 have hkl:=hz.k
 have hwl:=hz.w
 have HV:Hid (rulE r = if kdsE r.kinds ≠ 0 then kdsE r.kinds else if ¬ (2 ≤ r.most ∧ r.most ≤ 2000) then 1 else if 200 < r.weaks.length then 2 else if idsO r.weaks ≠ 0 then idsO r.weaks else sursE r.surs):=rfl
 generalize rulE r = RE at HV ⊢
 obtain ⟨ka,kc,kinds,most,wa,wc,weaks,sa,sc,surs⟩:=r
 dsimp only at *
 clear hR hz hH
 by_cases hz0:kinds.length = 0
 ·have h1:((kinds.length:Int) == 0) = true:=by simp;exact List.length_eq_zero_iff.1 hz0
  have hv:Hid (RE = 3):=by
   have hk:kdsE kinds = 3:=by unfold kdsE;rw [if_pos hz0]
   show _ = _
   rw [HV.out,hk];rfl
  clear hz0
  go_enter Tryz.func61,Tryz.ntmps61
  go_wp2_with fail
  go_ret
  exact ⟨ret_int hv.out.symm,HBN.out⟩
 have h1:((kinds.length:Int) == 0) = false:=by simp;intro c;exact hz0 (by rw [c];rfl)
 have HV1:Hid (kdsE kinds = fstErr (kd1 kinds) kinds.length):=by show _ = _;unfold kdsE;rw [if_neg hz0]
 clear hz0
 go_enter Tryz.func61,Tryz.ntmps61
 go_wp2_with fail
 go_loopw [13] (fun t wr => ∃ i:Nat,i ≤ kinds.length ∧ t = .int .i64 i ∧ Hid (fstErr (kd1 kinds) i = 0) ∧ Hid (wr = w.alloc (.cells #[.slice ka kinds.length kc,.int .i64 most,.slice wa weaks.length wc,.slice sa surs.length sc] 60))) (fun t _ => kinds.length - (intOf t).toNat)
 case atStart => exact ⟨0,by omega,rfl,rfl,rfl⟩
 case round =>
  obtain ⟨i,hi,rfl,h0,hwr⟩:=hrel
  have hwr:=hwr.out
  subst hwr
  generalize w.alloc (.cells #[.slice ka kinds.length kc,.int .i64 most,.slice wa weaks.length wc,.slice sa surs.length sc] 60) = W1 at *
  by_cases hlt:i < kinds.length
  ·obtain ⟨b,off,rfl,hbl,hc⟩:=HK.out.at_ HIN.out hlt (by omega)
   have c0:W1.cell? ⟨b,off + i,none⟩ = some (.int .i64 kinds[i]):=by simpa [fI] using hc 0 (by omega)
   have HAT:=Lib.hid (kd1_at hlt)
   have HBAD:Hid (∀ n,kd1 kinds i = n → n ≠ 0 → RE = n):=fun n h1 h2 => by
    have hk:kdsE kinds = n:=HV1.out.trans ((fstErr_bad hlt h0.out (by rw [h1];exact h2)).trans h1)
    rw [HV.out,hk,if_pos h2]
   have HNX:Hid (kd1 kinds i = 0 → fstErr (kd1 kinds) (i + 1) = 0):=fun h1 => fstErr_next h0.out h1
   have HPREV:Hid (∀ p,i = p + 1 → W1.cell? ⟨b,off + p,none⟩ = some (.int .i64 (kinds.getD (i - 1) kinds[i]))):=by
    rintro p rfl
    have hp:p < kinds.length:=by omega
    obtain ⟨b',off',hA',hbl',hc'⟩:=HK.out.at_ HIN.out hp (by omega)
    simp only [Option.some.injEq,Addr.mk.injEq] at hA'
    obtain ⟨rfl,rfl,_⟩:=hA'
    rw [Nat.add_sub_cancel,List.getD_eq_getElem?_getD,List.getElem?_eq_getElem hp,Option.getD_some]
    simpa [fI] using hc' 0 (by omega)
   clear hc
   generalize kinds.getD (i - 1) kinds[i] = pk at *
   generalize kinds[i] = k at *
   go_wp2_with fail
   refine (pwithin_any _ _ _ _).mono ?_
   rintro e w9 ⟨rfl,rfl⟩
   rw [within_dec]
   by_cases g2:1 ≤ k ∧ k ≤ 4
   rotate_left
   ·have hv:=Lib.hid (HBAD.out 4 (HAT.out.trans (if_pos g2)) (by omega))
    rw [decide_eq_false g2]
    clear g2
    go_wp2_with fail
    go_ret
    exact ⟨ret_int hv.out.symm,HBN.out⟩
   have HA2:=Lib.hid (HAT.out.trans (if_neg (fun c => c g2)))
   rw [decide_eq_true g2]
   clear g2 HAT
   rcases Nat.eq_zero_or_pos i with h0' | hpos
   ·have d2:decide ((0:Int) < (i:Int)) = false:=by simp;omega
    have hok:=Lib.hid (HNX.out (HA2.out.trans (if_neg (by omega))))
    subst h0'
    go_wp2_with fail
    go_roundw
    case rel => exact ⟨0 + 1,by omega,by go_num,hok,(by first | exact rfl | exact trivial)⟩
    case measure => simp [intOf];omega
   ·obtain ⟨p,hp⟩:∃ p,i = p + 1:=⟨i - 1,by omega⟩
    have c1:=HPREV.out p hp
    have HPOS:Hid (0 < i):=hpos
    subst hp
    have a1:IntKind.i64.wrap (((p + 1:Nat):Int) - 1) = (p:Int):=by rw [show ((p + 1:Nat):Int) - 1 = p from by omega];exact IntWalk.i64_in _ (by omega)
    have a6:IntKind.i64.wrap (p:Int) = (p:Int):=IntWalk.i64_in _ (by omega)
    have a3:(p:Int) < kinds.length:=by omega
    have a4:(0:Int) ≤ (p:Int):=by omega
    have a5:p < kinds.length:=by omega
    by_cases hle:k ≤ pk
    ·have hv:=Lib.hid (HBAD.out 7 (HA2.out.trans (if_pos ⟨HPOS.out,hle⟩)) (by omega))
     go_wp2_with fail
     go_ret
     exact ⟨ret_int hv.out.symm,HBN.out⟩
    ·have hok:=Lib.hid (HNX.out (HA2.out.trans (if_neg (fun c => hle c.2))))
     go_wp2_with fail
     go_roundw
     case rel => exact ⟨p + 1 + 1,by omega,by go_num,hok,(by first | exact rfl | exact trivial)⟩
     case measure => simp [intOf];omega
  ·have hie:i = kinds.length:=by omega
   subst hie
   have hk0:kdsE kinds = 0:=HV1.out.trans h0.out
   rw [hk0,if_neg (by simp)] at HV
   clear hk0 HV1 h0
   go_wp2_with fail
   refine (pwithin_any _ _ _ _).mono ?_
   rintro e w9 ⟨rfl,rfl⟩
   rw [within_dec]
   by_cases g2:2 ≤ most ∧ most ≤ 2000
   rotate_left
   ·rw [if_pos g2] at HV
    rw [decide_eq_false g2]
    clear g2
    go_wp2_with fail
    go_ret
    exact ⟨ret_int HV.out.symm,HBN.out⟩
   rw [if_neg (fun c => c g2)] at HV
   rw [decide_eq_true g2]
   clear g2
   by_cases g5:200 < weaks.length
   ·have d5:decide ((200:Int) < weaks.length) = true:=by simp;omega
    rw [if_pos g5] at HV
    clear g5
    go_wp2_with fail
    go_ret
    exact ⟨ret_int HV.out.symm,HBN.out⟩
   have d5:decide ((200:Int) < weaks.length) = false:=by simp;omega
   rw [if_neg g5] at HV
   clear g5
   go_wp2_with fail
   refine (HCI.out _ HIN.out).mono ?_
   rintro e W2 ⟨rfl,hb2⟩
   have HB2:=Lib.hid (HBN.out.trans (hb2.mono HBN.out.size))
   have HIN2:=Lib.hid (HIN.out.below hb2)
   have y3:=lift_cell z3 W2 hb2
   clear hb2 z0 z1 z2 z3
   generalize idsO weaks = ie at HV ⊢
   by_cases g6:ie = 0
   ·have k3:(ie != 0) = false:=by simpa using g6
    rw [if_neg (by simpa using g6)] at HV
    clear g6
    go_wp2_with fail
    refine (HCS.out _ HIN2.out).mono ?_
    rintro e W3 ⟨rfl,hb3⟩
    have HB3:=Lib.hid (HB2.out.trans (hb3.mono HB2.out.size))
    clear hb3
    go_wp2_with fail
    go_ret
    exact ⟨ret_int HV.out.symm,HB3.out⟩
   ·have k3:(ie != 0) = true:=by simpa using g6
    rw [if_pos g6] at HV
    clear g6
    go_wp2_with fail
    go_ret
    exact ⟨ret_int HV.out.symm,HB2.out⟩
end Go.Proofs.YtcncifmanodabaaGreatDoor
