/- Texts of this claim, put together: KeyOf, ValD, ChkF, ChkI. -/
import Derived.Test.YtcncifmanodabaaGreatDoorGAY
import Derived.Test.YtcncifmanodabaaGreatDoorGAU
import Derived.Test.YtcncifmanodabaaGreatDoorGAC
import Derived.Test.YtcncifmanodabaaGreatDoorLayValid
import Derived.Test.YtcncifmanodabaaGreatDoorGAW
import Derived.Test.YtcncifmanodabaaGreatDoorGAJ
import Derived.WalkLawsBesides
import Derived.Test.YtcncifmanodabaaGreatDoorGAK
namespace Go.Proofs.YtcncifmanodabaaGreatDoor
set_option linter.unusedVariables false
open Go.RowKit
theorem keyF_found {J:IdD → Bool} {ids:List IdD} {i:Nat} (h:i < ids.length) (h0:∀ y ∈ ids.take i,J y = false) (hJ:J ids[i] = true):keyF J ids = ids[i]:=by
 unfold keyF
 have:ids.find? J = some ids[i]:=by
  conv => lhs;rw [← List.take_append_drop i ids]
  rw [List.find?_append,List.find?_eq_none.2 (fun y hy => by rw [h0 y hy];decide),List.drop_eq_getElem_cons h,List.find?_cons_of_pos hJ]
  rfl
 rw [this];rfl
theorem keyF_none {J:IdD → Bool} {ids:List IdD} (h0:∀ y ∈ ids,J y = false) (hl:0 < ids.length):keyF J ids = ids[0]:=by
 unfold keyF
 rw [List.find?_eq_none.2 (fun y hy => by rw [h0 y hy];decide)]
 cases ids with
 | nil => cases hl
 | cons x l => rfl
theorem take_no {J:IdD → Bool} {ids:List IdD} {i:Nat} (h:i < ids.length) (h0:∀ y ∈ ids.take i,J y = false) (hJ:J ids[i] = false):∀ y ∈ ids.take (i + 1),J y = false:=by
 intro y hy
 rw [List.take_succ_eq_append_getElem h] at hy
 rcases List.mem_append.1 hy with hy | hy
 ·exact h0 y hy
 ·rw [List.mem_singleton.1 hy];exact hJ
theorem fin_set2 {w W:World} {q:Nat} (hb:Below w.heap.size w W) (hq:w.heap.size ≤ q) (a0 a1:Value):Below w.heap.size w ((W.setCell ⟨q,0,none⟩ a0).setCell ⟨q,1,none⟩ a1):=(hb.setCell (p:=⟨q,0,none⟩) hq _).setCell (p:=⟨q,1,none⟩) hq _
set_option maxHeartbeats 4000000 in
set_option maxRecDepth 100000 in
theorem keyOf_any {H:Frz} {gp bm nm:Nat} {m:Lit → Option Value} {r:RulD} {A:Option Addr} {cap:Nat} {ts:List TchD} (hG:GrpIn H gp bm nm m r A cap ts) (hw:RisingI r.weaks) (hwl:r.weaks.length ≤ 1000000) (hkl:r.kinds.length ≤ 1000000) (t:TchD) (hR:Rw H t.ia 2 fId t.ids) (hfit:∀ x ∈ t.ids,FitId x) (h0:0 < t.ids.length) (hl:t.ids.length ≤ 1000) (w:World) (hH:H.In w) :
  Calls Tryz.prog 64 #[.pointer (some ⟨gp,0,none⟩),.agg #[.int .i64 t.no,.int .i64 t.at_,.string t.source,.slice t.ia t.ids.length t.ic,.slice t.fa t.fields.length t.fc]] w fun e w' => e = .returned (.agg #[.int .i64 (keyF (JD r ts) t.ids).kind,.string (keyF (JD r ts) t.ids).text]) ∧ Below w.heap.size w w':=by
 have HJA:=Lib.hid (fun x hx W hW => joins_any hG hw.sort hwl hkl x hx W hW)
 have HR:=Lib.hid hR
 have HFIT:=Lib.hid hfit
 have HB2:=Lib.hid (new2 (w:=w) (.cells #[.int .i64 t.no,.int .i64 t.at_,.string t.source,.slice t.ia t.ids.length t.ic,.slice t.fa t.fields.length t.fc] 91) (.cells #[.int .i64 0,.string ⟨#[]⟩] 36))
 have HIN:=Lib.hid (fun W (hW:Below w.heap.size w W) => hH.below hW)
 have HT2:Hid (((w.alloc (.cells #[.int .i64 t.no,.int .i64 t.at_,.string t.source,.slice t.ia t.ids.length t.ic,.slice t.fa t.fields.length t.fc] 91)).alloc (.cells #[.int .i64 0,.string ⟨#[]⟩] 36)).heap[w.heap.size]? = some (.cells #[.int .i64 t.no,.int .i64 t.at_,.string t.source,.slice t.ia t.ids.length t.ic,.slice t.fa t.fields.length t.fc] 91)):=(heap_lt (by simp)).trans (heap_alloc_new _ _)
 have HQ2:Hid (((w.alloc (.cells #[.int .i64 t.no,.int .i64 t.at_,.string t.source,.slice t.ia t.ids.length t.ic,.slice t.fa t.fields.length t.fc] 91)).alloc (.cells #[.int .i64 0,.string ⟨#[]⟩] 36)).heap[w.heap.size + 1]? = some (.cells #[.int .i64 0,.string ⟨#[]⟩] 36)):=heap_at (by simp)
 clear hG hw hR hfit hH
 have z3:((w.alloc (.cells #[.int .i64 t.no,.int .i64 t.at_,.string t.source,.slice t.ia t.ids.length t.ic,.slice t.fa t.fields.length t.fc] 91)).alloc (.cells #[.int .i64 0,.string ⟨#[]⟩] 36)).cell? ⟨w.heap.size,3,none⟩ = some (.slice t.ia t.ids.length t.ic):=cell_h HT2.out 3 rfl
 go_enter Tryz.func64,Tryz.ntmps64
 go_upto_region 1 with (fail)
 generalize (w.alloc (.cells #[.int .i64 t.no,.int .i64 t.at_,.string t.source,.slice t.ia t.ids.length t.ic,.slice t.fa t.fields.length t.fc] 91)).alloc (.cells #[.int .i64 0,.string ⟨#[]⟩] 36) = w2 at *
 generalize t.ia = ia at *
 obtain ⟨q4,hq4⟩:∃ q4,q4 = w.heap.size + 1:=⟨_,rfl⟩
 obtain ⟨q3,hq3⟩:∃ q3,q3 = w.heap.size:=⟨_,rfl⟩
 rw [← hq4] at HQ2 ⊢
 rw [← hq3] at HT2 z3 ⊢
 have HNUM:Hid (w.heap.size ≤ q4 ∧ w.heap.size ≤ q3):=by show _ ∧ _;omega
 clear hq4 hq3
 go_wp2_with fail
 clear z3
 go_loopw [10] (fun v wr => ∃ i:Nat,i ≤ t.ids.length ∧ v = .int .i64 i ∧ Hid (∀ y ∈ t.ids.take i,JD r ts y = false) ∧ Hid (Below w2.heap.size w2 wr)) (fun v _ => t.ids.length - (intOf v).toNat)
 case atStart => exact ⟨0,by omega,rfl,fun y hy => by simp at hy,Below.refl _ _⟩
 case round =>
  obtain ⟨i,hi,rfl,HN,HB⟩:=hrel
  have HBw:=Lib.hid (HB2.out.trans (HB.out.mono HB2.out.size))
  by_cases hlt:i < t.ids.length
  ·obtain ⟨b,off,rfl,_,hc⟩:=HR.out.at_ (HIN.out _ HBw.out) hlt (by omega)
   have e0:wr.cell? ⟨b,off + i * 2,none⟩ = some (.int .i64 t.ids[i].kind):=hc 0 (by omega)
   have e1:wr.cell? ⟨b,off + i * 2 + 1,none⟩ = some (.string t.ids[i].text):=hc 1 (by omega)
   have HX:=Lib.hid (HFIT.out _ (List.getElem_mem hlt))
   have HFO:=Lib.hid (fun h => keyF_found (J:=JD r ts) hlt HN.out h)
   have HNO:=Lib.hid (fun h => take_no (J:=JD r ts) hlt HN.out h)
   have hlt2:(i:Int) < t.ids.length:=by omega
   clear hc HN
   generalize t.ids[i] = x at *
   have z0:(wr.alloc (.cells #[.int .i64 x.kind,.string x.text] 36)).cell? ⟨wr.heap.size,0,none⟩ = some (.int .i64 x.kind):=newc 0 rfl
   have z1:(wr.alloc (.cells #[.int .i64 x.kind,.string x.text] 36)).cell? ⟨wr.heap.size,1,none⟩ = some (.string x.text):=newc 1 rfl
   have HBN:=Lib.hid (new1 (w:=wr) (.cells #[.int .i64 x.kind,.string x.text] 36))
   go_upto_region 4 with (fail)
   clear e0 e1
   have HB5:=Lib.hid (HB.out.trans (HBN.out.mono HB.out.size))
   have HBw5:=Lib.hid (HBw.out.trans (HBN.out.mono HBw.out.size))
   have XH:Hid ((wr.alloc (.cells #[.int .i64 x.kind,.string x.text] 36)).heap[wr.heap.size]? = some (.cells #[.int .i64 x.kind,.string x.text] 36)):=heap_alloc_new _ _
   clear HB HBw HBN
   generalize hqx:wr.heap.size = qx at *
   generalize wr.alloc (.cells #[.int .i64 x.kind,.string x.text] 36) = w5 at *
   clear hqx
   go_wp2_with fail
   refine (HJA.out x HX.out _ (HIN.out _ HBw5.out)).mono ?_
   rintro e w6 ⟨rfl,hb6⟩
   have HB6:=Lib.hid (HB5.out.trans (hb6.mono HB5.out.size))
   have HBw6:=Lib.hid (HBw5.out.trans (hb6.mono HBw5.out.size))
   have hx6:=(hb6.block _ (lt_of_heap XH.out)).trans XH.out
   have hjv:joinsD r.kinds r.most r.weaks ts x = JD r ts x:=rfl
   rw [hjv]
   clear z0 z1 hb6 XH HB5 HBw5 hjv
   generalize JD r ts x = jv at *
   cases jv with
   | true =>
    have HKX:=Lib.hid (HFO.out rfl)
    have y0:w6.cell? ⟨qx,0,none⟩ = some (.int .i64 x.kind):=cell_h hx6 0 rfl
    have y1:w6.cell? ⟨qx,1,none⟩ = some (.string x.text):=cell_h hx6 1 rfl
    have hq6:=(HB6.out.block _ (lt_of_heap HQ2.out)).trans HQ2.out
    have u0:w6.cell? ⟨q4,0,none⟩ = some (.int .i64 0):=cell_h hq6 0 rfl
    have u1:w6.cell? ⟨q4,1,none⟩ = some (.string ⟨#[]⟩):=cell_h hq6 1 rfl
    have f0:=froz_h hq6 0
    have f1:=froz_h hq6 1
    have HK9:=Lib.hid (set2 hq6 (.int .i64 x.kind) (.string x.text))
    have HF:=Lib.hid (fin_set2 HBw6.out HNUM.out.1 (.int .i64 x.kind) (.string x.text))
    clear hx6 hq6 HFO HNO HB6 HBw6
    go_wp2_with fail
    have v0:=cell_h HK9.out 0 (v:=.int .i64 x.kind) rfl
    have v1:=cell_h HK9.out 1 (v:=.string x.text) rfl
    refine bodyPost_ret (v:=.agg #[.int .i64 x.kind,.string x.text]) (by simp [results,Tryz.results64,go_sem,v0,v1]) rfl ⟨by rw [HKX.out],HF.out⟩
   | false =>
    have HN2:=Lib.hid (HNO.out rfl)
    clear hx6 HFO HNO HBw6
    go_wp2_with fail
    go_roundw
    case rel => exact ⟨i + 1,by omega,by go_num,HN2,HB6⟩
    case measure => simp [intOf];omega
  ·have hie:i = t.ids.length:=by omega
   have HNA:Hid (∀ y ∈ t.ids,JD r ts y = false):=by
    have:=HN.out
    rw [hie,List.take_length] at this
    exact this
   have HKX:=Lib.hid (keyF_none HNA.out h0)
   obtain ⟨b,off,rfl,_,hc⟩:=HR.out.at_ (HIN.out _ HBw.out) h0 (by omega)
   have e0:wr.cell? ⟨b,off,none⟩ = some (.int .i64 t.ids[0].kind):=by simpa [fId] using hc 0 (by omega)
   have e1:wr.cell? ⟨b,off + 1,none⟩ = some (.string t.ids[0].text):=by simpa [fId] using hc 1 (by omega)
   have ht6:=(HB.out.block _ (lt_of_heap HT2.out)).trans HT2.out
   have z3:wr.cell? ⟨q3,3,none⟩ = some (.slice (some ⟨b,off,none⟩) t.ids.length t.ic):=cell_h ht6 3 rfl
   have hq6:=(HB.out.block _ (lt_of_heap HQ2.out)).trans HQ2.out
   have u0:wr.cell? ⟨q4,0,none⟩ = some (.int .i64 0):=cell_h hq6 0 rfl
   have u1:wr.cell? ⟨q4,1,none⟩ = some (.string ⟨#[]⟩):=cell_h hq6 1 rfl
   have f0:=froz_h hq6 0
   have f1:=froz_h hq6 1
   have h0':(0:Int) < t.ids.length:=by omega
   clear hc ht6
   generalize t.ids[0] = x at *
   have HK9:=Lib.hid (set2 hq6 (.int .i64 x.kind) (.string x.text))
   have HF:=Lib.hid (fin_set2 HBw.out HNUM.out.1 (.int .i64 x.kind) (.string x.text))
   clear hq6 HB HBw HN HNA
   go_wp2_with fail
   have v0:=cell_h HK9.out 0 (v:=.int .i64 x.kind) rfl
   have v1:=cell_h HK9.out 1 (v:=.string x.text) rfl
   refine bodyPost_ret (v:=.agg #[.int .i64 x.kind,.string x.text]) (by simp [results,Tryz.results64,go_sem,v0,v1]) rfl ⟨by rw [HKX.out],HF.out⟩
open Go.RowKit
def UtfIn (H:Frz):Prop:=∀ W,H.In W → Lib.Utf8Tabs 3 4 W
theorem UtfIn.le {H H':Frz} (h:UtfIn H) (hl:H.Le H'):UtfIn H':=fun W hW => h W (hW.le hl)
def txtC (c:UInt8):Bool:=decide (32 ≤ c.toNat) && decide (c.toNat ≠ 127)
def okT (s:ByteArray):Bool:=Lib.validD s.data.toList && allB txtC s
set_option maxHeartbeats 400000 in
theorem txtC_any (c:UInt8) (w:World):Calls Tryz.prog 195 #[.int .u8 (c.toNat:Int)] w fun e w' => e = .returned (.bool (txtC c)) ∧ w = w':=by
 have h0:c.toNat < 256:=c.toNat_lt
 by_cases h1:32 ≤ c.toNat
 ·by_cases h2:c.toNat = 127
  ·have HV:Hid (txtC c = false):=by show _ = _;unfold txtC;simp [h2]
   have e2:((c.toNat:Int) != 127) = false:=by simp;omega
   go_enter Tryz.func195,Tryz.ntmps195
   go_wp2_with fail
   go_ret
   exact ⟨ret_bool' HV.out.symm,rfl⟩
  ·have HV:Hid (txtC c = true):=by show _ = _;unfold txtC;simp [h1,h2]
   have e2:((c.toNat:Int) != 127) = true:=by simp;omega
   go_enter Tryz.func195,Tryz.ntmps195
   go_wp2_with fail
   go_ret
   exact ⟨ret_bool' HV.out.symm,rfl⟩
 ·have HV:Hid (txtC c = false):=by show _ = _;unfold txtC;simp [h1]
  go_enter Tryz.func195,Tryz.ntmps195
  go_wp2_with fail
  go_ret
  exact ⟨ret_bool' HV.out.symm,rfl⟩
set_option maxHeartbeats 400000 in
theorem checkText_any (H:Frz) (hU:UtfIn H) (s:ByteArray) (w:World) (hH:H.In w) (hs:s.size ≤ 1000000) :
  Calls Tryz.prog 186 #[.string s] w fun e w' => e = .returned (.int .i64 (txtErr okT s)) ∧ Below w.heap.size w w':=by
 by_cases hlong:200 < s.size
 ·have HV:Hid (txtErr okT s = 2):=by show _ = _;unfold txtErr;rw [if_pos hlong]
  go_enter Tryz.func186,Tryz.ntmps186
  go_wp2_with fail
  go_ret
  exact ⟨ret_int HV.out.symm,Below.refl _ _⟩
 ·have HV:Hid (txtErr okT s = if okT s = true then 0 else 3):=by show _ = _;unfold txtErr;rw [if_neg hlong]
  have HT:=Lib.hid (Any.utf8_ValidString Tryz.laysValid s w (by omega) (hU w hH))
  go_enter Tryz.func186,Tryz.ntmps186
  go_wp2_with fail
  refine HT.out.mono ?_
  rintro e w1 ⟨rfl,hb⟩
  have HB:=Lib.hid hb
  clear hb
  unfold okT at HV
  cases hv:Lib.validD s.data.toList with
  | false =>
   rw [hv] at HV
   clear hv
   go_wp2_with fail
   go_ret
   exact ⟨ret_int HV.out.symm,HB.out⟩
  | true =>
   rw [hv] at HV
   clear hv
   go_wp2_with fail
   refine (all_any 195 txtC txtC_any (fun _ _ => by kernel_rfl) s _ (by omega)).mono ?_
   rintro e w' ⟨rfl,rfl⟩
   cases hv:allB txtC s with
   | false =>
    rw [hv] at HV
    clear hv
    go_wp2_with fail
    go_ret
    exact ⟨ret_int HV.out.symm,HB.out⟩
   | true =>
    rw [hv] at HV
    clear hv
    go_wp2_with fail
    go_ret
    exact ⟨ret_int HV.out.symm,HB.out⟩
theorem size0V (s:ByteArray):s.size = 0 ↔ s.toList = []:=by
 rw [ByteArray.toList_eq]
 constructor
 ·intro h;exact List.eq_nil_of_length_eq_zero (by simpa using h)
 ·intro h;have:=congrArg List.length h;simpa using this
set_option maxHeartbeats 4000000 in
theorem checkValue_any (H:Frz) (hU:UtfIn H) (v:VD) (w:World) (hH:H.In w) (hs:v.text.size ≤ 1000000) :
  Calls Tryz.prog 165 #[.agg #[.int .i64 v.kind,.string v.text,.int .i64 v.num]] w fun e w' => e = .returned (.int .i64 (valErr okT v)) ∧ Below w.heap.size w w':=by
 obtain ⟨kind,text,num⟩:=v
 have HB:=Lib.hid (new1 (w:=w) (.cells #[.int .i64 kind,.string text,.int .i64 num] 169))
 have HIN:=Lib.hid (hH.alloc (.cells #[.int .i64 kind,.string text,.int .i64 num] 169))
 have z0:(w.alloc (.cells #[.int .i64 kind,.string text,.int .i64 num] 169)).cell? ⟨w.heap.size,0,none⟩ = some (.int .i64 kind):=newc 0 rfl
 have z1:(w.alloc (.cells #[.int .i64 kind,.string text,.int .i64 num] 169)).cell? ⟨w.heap.size,1,none⟩ = some (.string text):=newc 1 rfl
 have z2:(w.alloc (.cells #[.int .i64 kind,.string text,.int .i64 num] 169)).cell? ⟨w.heap.size,2,none⟩ = some (.int .i64 num):=newc 2 rfl
 have HTX:=Lib.hid (fun W (hW:H.In W) => checkText_any H hU text W hW hs)
 clear hH hU
 by_cases k1:kind = 1
 ·subst k1
  by_cases n0:num = 0
  ·subst n0
   have HV:Hid (valErr okT ⟨1,text,0⟩ = txtErr okT text):=by show _ = _;simp [valErr]
   go_enter Tryz.func165,Tryz.ntmps165
   go_wp2_with fail
   refine (HTX.out _ HIN.out).mono ?_
   rintro e w1 ⟨rfl,hb⟩
   have HB2:=Lib.hid (HB.out.trans (hb.mono HB.out.size))
   clear hb
   go_wp2_with fail
   go_ret
   exact ⟨ret_int HV.out.symm,HB2.out⟩
  ·have e0:(num != 0) = true:=by simpa using n0
   have HV:Hid (valErr okT ⟨1,text,num⟩ = 3):=by show _ = _;simp [valErr,n0]
   go_enter Tryz.func165,Tryz.ntmps165
   go_wp2_with fail
   go_ret
   exact ⟨ret_int HV.out.symm,HB.out⟩
 ·have e1:(kind == 1) = false:=by simpa using k1
  by_cases k2:kind = 2
  ·subst k2
   by_cases t0:text.toList = []
   ·have f0:text.toList.isEmpty = true:=by simpa using t0
    have ht0:text.size = 0:=(size0V text).2 t0
    by_cases r:(-1000000000000:Int) ≤ num ∧ num ≤ (1000000000000:Int)
    ·have HV:Hid (valErr okT ⟨2,text,num⟩ = 0):=by show _ = _;simp [valErr,ht0];omega
     have HD:Hid ((decide ((-1000000000000:Int) ≤ num) && decide (num ≤ (1000000000000:Int))) = true):=by show _ = true;rw [decide_eq_true r.1,decide_eq_true r.2];rfl
     go_enter Tryz.func165,Tryz.ntmps165
     go_wp2_with fail
     refine (pwithin_any _ _ _ _).mono ?_
     rintro e w1 ⟨rfl,rfl⟩
     rw [HD.out]
     go_wp2_with fail
     go_ret
     exact ⟨ret_int HV.out.symm,HB.out⟩
    ·have HV:Hid (valErr okT ⟨2,text,num⟩ = 1):=by show _ = _;simp [valErr,ht0];omega
     have HD:Hid ((decide ((-1000000000000:Int) ≤ num) && decide (num ≤ (1000000000000:Int))) = false):=by
      show _ = false
      cases hq:(decide ((-1000000000000:Int) ≤ num) && decide (num ≤ (1000000000000:Int))) with
      | false => rfl
      | true => exact absurd (by simpa using hq) r
     go_enter Tryz.func165,Tryz.ntmps165
     go_wp2_with fail
     refine (pwithin_any _ _ _ _).mono ?_
     rintro e w1 ⟨rfl,rfl⟩
     rw [HD.out]
     go_wp2_with fail
     go_ret
     exact ⟨ret_int HV.out.symm,HB.out⟩
   ·have f0:text.toList.isEmpty = false:=by simpa using t0
    have ht0:text.size ≠ 0:=fun c => t0 ((size0V text).1 c)
    have HV:Hid (valErr okT ⟨2,text,num⟩ = 3):=by show _ = _;simp [valErr,ht0]
    go_enter Tryz.func165,Tryz.ntmps165
    go_wp2_with fail
    go_ret
    exact ⟨ret_int HV.out.symm,HB.out⟩
  ·have e2:(kind == 2) = false:=by simpa using k2
   by_cases k3:kind = 3
   ·subst k3
    by_cases t0:text.toList = []
    ·have f0:text.toList.isEmpty = true:=by simpa using t0
     have ht0:text.size = 0:=(size0V text).2 t0
     by_cases r:(0:Int) ≤ num ∧ num ≤ (1:Int)
     ·have HV:Hid (valErr okT ⟨3,text,num⟩ = 0):=by show _ = _;simp [valErr,ht0];omega
      have HD:Hid ((decide ((0:Int) ≤ num) && decide (num ≤ (1:Int))) = true):=by show _ = true;rw [decide_eq_true r.1,decide_eq_true r.2];rfl
      go_enter Tryz.func165,Tryz.ntmps165
      go_wp2_with fail
      refine (pwithin_any _ _ _ _).mono ?_
      rintro e w1 ⟨rfl,rfl⟩
      rw [HD.out]
      go_wp2_with fail
      go_ret
      exact ⟨ret_int HV.out.symm,HB.out⟩
     ·have HV:Hid (valErr okT ⟨3,text,num⟩ = 1):=by show _ = _;simp [valErr,ht0];omega
      have HD:Hid ((decide ((0:Int) ≤ num) && decide (num ≤ (1:Int))) = false):=by
       show _ = false
       cases hq:(decide ((0:Int) ≤ num) && decide (num ≤ (1:Int))) with
       | false => rfl
       | true => exact absurd (by simpa using hq) r
      go_enter Tryz.func165,Tryz.ntmps165
      go_wp2_with fail
      refine (pwithin_any _ _ _ _).mono ?_
      rintro e w1 ⟨rfl,rfl⟩
      rw [HD.out]
      go_wp2_with fail
      go_ret
      exact ⟨ret_int HV.out.symm,HB.out⟩
    ·have f0:text.toList.isEmpty = false:=by simpa using t0
     have ht0:text.size ≠ 0:=fun c => t0 ((size0V text).1 c)
     have HV:Hid (valErr okT ⟨3,text,num⟩ = 3):=by show _ = _;simp [valErr,ht0]
     go_enter Tryz.func165,Tryz.ntmps165
     go_wp2_with fail
     go_ret
     exact ⟨ret_int HV.out.symm,HB.out⟩
   ·have e3:(kind == 3) = false:=by simpa using k3
    by_cases k4:kind = 4
    ·subst k4
     by_cases t0:text.toList = []
     ·have f0:text.toList.isEmpty = true:=by simpa using t0
      have ht0:text.size = 0:=(size0V text).2 t0
      by_cases r:(0:Int) ≤ num ∧ num ≤ (4321439:Int)
      ·have HV:Hid (valErr okT ⟨4,text,num⟩ = 0):=by show _ = _;simp [valErr,ht0];omega
       have HD:Hid ((decide ((0:Int) ≤ num) && decide (num ≤ (4321439:Int))) = true):=by show _ = true;rw [decide_eq_true r.1,decide_eq_true r.2];rfl
       go_enter Tryz.func165,Tryz.ntmps165
       go_wp2_with fail
       refine (pwithin_any _ _ _ _).mono ?_
       rintro e w1 ⟨rfl,rfl⟩
       rw [HD.out]
       go_wp2_with fail
       go_ret
       exact ⟨ret_int HV.out.symm,HB.out⟩
      ·have HV:Hid (valErr okT ⟨4,text,num⟩ = 1):=by show _ = _;simp [valErr,ht0];omega
       have HD:Hid ((decide ((0:Int) ≤ num) && decide (num ≤ (4321439:Int))) = false):=by
        show _ = false
        cases hq:(decide ((0:Int) ≤ num) && decide (num ≤ (4321439:Int))) with
        | false => rfl
        | true => exact absurd (by simpa using hq) r
       go_enter Tryz.func165,Tryz.ntmps165
       go_wp2_with fail
       refine (pwithin_any _ _ _ _).mono ?_
       rintro e w1 ⟨rfl,rfl⟩
       rw [HD.out]
       go_wp2_with fail
       go_ret
       exact ⟨ret_int HV.out.symm,HB.out⟩
     ·have f0:text.toList.isEmpty = false:=by simpa using t0
      have ht0:text.size ≠ 0:=fun c => t0 ((size0V text).1 c)
      have HV:Hid (valErr okT ⟨4,text,num⟩ = 3):=by show _ = _;simp [valErr,ht0]
      go_enter Tryz.func165,Tryz.ntmps165
      go_wp2_with fail
      go_ret
      exact ⟨ret_int HV.out.symm,HB.out⟩
    ·have e4:(kind == 4) = false:=by simpa using k4
     have HV:Hid (valErr okT ⟨kind,text,num⟩ = 4):=by show _ = _;simp [valErr,k1,k2,k3,k4]
     go_enter Tryz.func165,Tryz.ntmps165
     go_wp2_with fail
     go_ret
     exact ⟨ret_int HV.out.symm,HB.out⟩
open Go.RowKit
theorem fd1_at {ok:ByteArray → Bool} {fs:List FD} {i:Nat} (h:i < fs.length):fd1 ok fs i = if isKey fs[i].name = false then 5 else if valErr ok fs[i].v ≠ 0 then valErr ok fs[i].v else if 0 < i ∧ 0 ≤ cmpS (fs.getD (i - 1) fs[i]).name fs[i].name then 7 else 0:=by
 unfold fd1
 rw [List.getElem?_eq_getElem h]
theorem idO1_at {ids:List IdD} {i:Nat} (h:i < ids.length):idO1 ids i = if idErr ids[i].kind ids[i].text ≠ 0 then idErr ids[i].kind ids[i].text else if 0 < i ∧ idCmp ids[i] (ids.getD (i - 1) ids[i]) ≤ 0 then 7 else 0:=by
 unfold idO1
 rw [List.getElem?_eq_getElem h]
set_option maxHeartbeats 4000000 in
set_option maxRecDepth 100000 in
theorem checkFields_any (H:Frz) (hU:UtfIn H) (A:Option Addr) (cap:Nat) (fs:List FD) (w:World) (hH:H.In w) (hR:Rw H A 4 fFd fs) (hl:fs.length ≤ 1000000) (hsz:∀ f ∈ fs,f.name.size ≤ 1000000 ∧ f.v.text.size ≤ 1000000) :
  Calls Tryz.prog 140 #[.slice A fs.length cap] w fun e w' => e = .returned (.int .i64 (fdsE okT fs)) ∧ Below w.heap.size w w':=by
 have HR:=Lib.hid hR
 have HH:=Lib.hid hH
 have HS:=Lib.hid hsz
 have HCV:=Lib.hid (fun v W (hW:H.In W) h => checkValue_any H hU v W hW h)
 clear hR hH hsz hU
 by_cases hlong:30 < fs.length
 ·have h2:decide ((30:Int) < fs.length) = true:=by simp;omega
  have hv:Hid (fdsE okT fs = 2):=by show _ = _;unfold fdsE;rw [if_pos hlong]
  clear hlong
  go_enter Tryz.func140,Tryz.ntmps140
  go_wp2_with fail
  go_ret
  exact ⟨ret_int hv.out.symm,Below.refl _ _⟩
 ·have h2:decide ((30:Int) < fs.length) = false:=by simp;omega
  have HV:Hid (fdsE okT fs = fstErr (fd1 okT fs) fs.length):=by show _ = _;unfold fdsE;rw [if_neg hlong]
  clear hlong
  go_enter Tryz.func140,Tryz.ntmps140
  go_wp2_with fail
  go_loopw [11] (fun t wr => ∃ i:Nat,i ≤ fs.length ∧ t = .int .i64 i ∧ Hid (fstErr (fd1 okT fs) i = 0) ∧ Hid (Below w.heap.size w wr)) (fun t _ => fs.length - (intOf t).toNat)
  case atStart => exact ⟨0,by omega,rfl,rfl,Below.refl _ _⟩
  case round =>
   obtain ⟨i,hi,rfl,h0,hb⟩:=hrel
   by_cases hlt:i < fs.length
   ·have hin:=HH.out.below hb.out
    obtain ⟨b,off,hA,hbl,hc⟩:=HR.out.at_ hin hlt (by omega)
    have hprev:Hid (∀ p,i = p + 1 → ∀ W',Below wr.heap.size wr W' → W'.cell? ⟨b,off + p * 4,none⟩ = some (.string (fs.getD (i - 1) fs[i]).name)):=by
     rintro p rfl W' hW'
     have hp:p < fs.length:=by omega
     obtain ⟨b',off',hA',hbl',hc'⟩:=HR.out.at_ hin hp (by omega)
     rw [hA] at hA'
     simp only [Option.some.injEq,Addr.mk.injEq] at hA'
     obtain ⟨rfl,rfl,_⟩:=hA'
     rw [Nat.add_sub_cancel,List.getD_eq_getElem?_getD,List.getElem?_eq_getElem hp,Option.getD_some]
     exact lift_cell (hc' 0 (by omega)) W' hW'
    subst hA
    have c0:wr.cell? ⟨b,off + i * 4,none⟩ = some (.string fs[i].name):=hc 0 (by omega)
    have c1:wr.cell? ⟨b,off + i * 4 + 1,none⟩ = some (.int .i64 fs[i].v.kind):=hc 1 (by omega)
    have c2:wr.cell? ⟨b,off + i * 4 + 2,none⟩ = some (.string fs[i].v.text):=hc 2 (by omega)
    have c3:wr.cell? ⟨b,off + i * 4 + 3,none⟩ = some (.int .i64 fs[i].v.num):=hc 3 (by omega)
    have HAT:=Lib.hid (fd1_at (ok:=okT) hlt)
    have HBAD:Hid (∀ n,fd1 okT fs i = n → n ≠ 0 → fdsE okT fs = n):=fun n h1 h2 => HV.out.trans ((fstErr_bad hlt h0.out (by rw [h1];exact h2)).trans h1)
    have HNX:Hid (fd1 okT fs i = 0 → fstErr (fd1 okT fs) (i + 1) = 0):=fun h1 => fstErr_next h0.out h1
    have hks:=HS.out _ (List.getElem_mem hlt)
    clear hc
    generalize (fs.getD (i - 1) fs[i]).name = pn at *
    generalize fs[i] = d at *
    have z0:(wr.alloc (.cells #[.string d.name,.int .i64 d.v.kind,.string d.v.text,.int .i64 d.v.num] 172)).cell? ⟨wr.heap.size,0,none⟩ = some (.string d.name):=newc 0 rfl
    have z1:(wr.alloc (.cells #[.string d.name,.int .i64 d.v.kind,.string d.v.text,.int .i64 d.v.num] 172)).cell? ⟨wr.heap.size,1,none⟩ = some (.int .i64 d.v.kind):=newc 1 rfl
    have z2:(wr.alloc (.cells #[.string d.name,.int .i64 d.v.kind,.string d.v.text,.int .i64 d.v.num] 172)).cell? ⟨wr.heap.size,2,none⟩ = some (.string d.v.text):=newc 2 rfl
    have z3:(wr.alloc (.cells #[.string d.name,.int .i64 d.v.kind,.string d.v.text,.int .i64 d.v.num] 172)).cell? ⟨wr.heap.size,3,none⟩ = some (.int .i64 d.v.num):=newc 3 rfl
    have HBN:=Lib.hid (new1 (w:=wr) (.cells #[.string d.name,.int .i64 d.v.kind,.string d.v.text,.int .i64 d.v.num] 172))
    go_upto_region 6 with (fail)
    clear c0 c1 c2 c3
    generalize wr.alloc (.cells #[.string d.name,.int .i64 d.v.kind,.string d.v.text,.int .i64 d.v.num] 172) = W1 at *
    have HB1:=Lib.hid (hb.out.trans (HBN.out.mono hb.out.size))
    have HBN2:=Lib.hid HBN.out
    have HIN1:=Lib.hid (hin.below HBN.out)
    clear hb h0 HBN hin
    go_wp2_with fail
    refine (isKey_any d.name _ (by omega)).mono ?_
    rintro e w' ⟨rfl,rfl⟩
    generalize isKey d.name = k1 at HAT
    cases k1 with
    | false =>
     have hv:=Lib.hid (HBAD.out 5 (HAT.out.trans (if_pos rfl)) (by omega))
     go_wp2_with fail
     go_ret
     exact ⟨ret_int hv.out.symm,HB1.out⟩
    | true =>
     have HA1:=Lib.hid (HAT.out.trans (if_neg (by simp)))
     clear HAT
     have J0:=lift_cell z0
     go_wp2_with fail
     refine (HCV.out d.v _ HIN1.out (by omega)).mono ?_
     rintro e W2 ⟨rfl,hb2⟩
     have HB2:=Lib.hid (HB1.out.trans (hb2.mono HB1.out.size))
     have HIN2:=Lib.hid (HIN1.out.below hb2)
     have J2:∀ W,Below W2.heap.size W2 W → W.cell? ⟨wr.heap.size,0,none⟩ = some (.string d.name):=fun W hW => J0 W (hb2.trans (hW.mono hb2.size))
     have HBN3:=Lib.hid (HBN2.out.trans (hb2.mono HBN2.out.size))
     generalize valErr okT d.v = ie at HA1 ⊢
     clear hb2 z0 z1 z2 z3 J0
     by_cases g3:ie = 0
     ·have k3:(ie != 0) = false:=by simpa using g3
      have HA3:=Lib.hid (HA1.out.trans (if_neg (by simpa using g3)))
      clear g3 HA1
      go_wp2_with fail
      rcases Nat.eq_zero_or_pos i with h0 | hpos
      ·have d2:decide ((0:Int) < (i:Int)) = false:=by simp;omega
       have hok:=Lib.hid (HNX.out (HA3.out.trans (if_neg (by omega))))
       clear h0
       (refine wp_region_det 12 40 (fun W => Below (W2).heap.size (W2) W) (by kernel_rfl) (by kernel_rfl) (by rfl) (Below.refl _ _).drew ?_;simp only [List.take_succ_cons,List.take_zero,List.drop_succ_cons,List.drop_zero])
       iterate 1 (refine detSeq_op rfl ?_ (fun W hW => ?_) ?_;rotate_left;(focus simp only [OpV];go_simp;first | exact rfl | exact ⟨rfl,hW⟩))
       (refine detSeq_op rfl (.bool false) (fun W hW => ?_) ?_;focus (simp only [OpV];go_simp;try (first | exact rfl | exact hW | (have h9:=d2;simp at h9;omega))))
       iterate 1 (refine detSeq_op rfl ?_ (fun W hW => ?_) ?_;rotate_left;(focus simp only [OpV];go_simp;first | exact rfl | exact ⟨rfl,hW⟩))
       iterate 9 (refine detSeq_no (by kernel_rfl) ?_)
       refine detSeq_nil (fun W3 hW3 => ?_)
       have HB3:=Lib.hid (HB2.out.trans (hW3.mono HB2.out.size))
       clear J2 hW3
       go_wp2_with fail
       go_roundw
       case rel => exact ⟨i + 1,by omega,by go_num,hok,HB3⟩
       case measure => simp [intOf];omega
      ·obtain ⟨p,hp⟩:∃ p,i = p + 1:=⟨i - 1,by omega⟩
       have d2:decide ((0:Int) < (i:Int)) = true:=by simp;omega
       have a1:IntKind.i64.wrap ((i:Int) - 1) = (p:Int):=by rw [show (i:Int) - 1 = p from by omega];exact IntWalk.i64_in _ (by omega)
       have a6:IntKind.i64.wrap (p:Int) = (p:Int):=IntWalk.i64_in _ (by omega)
       have a2:(i:Int) - 1 = (p:Int):=by omega
       have a3:(p:Int) < fs.length:=by omega
       have a4:(0:Int) ≤ (p:Int):=by omega
       have a5:p < fs.length:=by omega
       have K0:∀ W,Below W2.heap.size W2 W → W.cell? ⟨b,off + p * 4,none⟩ = some (.string pn):=fun W hW => hprev.out p hp W (HBN3.out.trans (hW.mono HBN3.out.size))
       have HPOS:Hid (0 < i):=hpos
       clear hp hpos
       (refine wp_region_det 12 40 (fun W => Below (W2).heap.size (W2) W) (by kernel_rfl) (by kernel_rfl) (by rfl) (Below.refl _ _).drew ?_;simp only [List.take_succ_cons,List.take_zero,List.drop_succ_cons,List.drop_zero])
       iterate 1 (refine detSeq_op rfl ?_ (fun W hW => ?_) ?_;rotate_left;(focus simp only [OpV];go_simp;first | exact rfl | exact ⟨rfl,hW⟩))
       (refine detSeq_op rfl (.bool true) (fun W hW => ?_) ?_;focus (simp only [OpV];go_simp;try (first | exact rfl | exact hW | (have h9:=d2;simp at h9;omega))))
       iterate 1 (refine detSeq_op rfl ?_ (fun W hW => ?_) ?_;rotate_left;(focus simp only [OpV];go_simp;first | exact rfl | exact ⟨rfl,hW⟩))
       iterate 4 (refine detSeq_yes (by kernel_rfl) ?_ (fun W hW => ?_) ?_;rotate_left;(focus simp only [OpV];go_simp;first | exact rfl | exact ⟨rfl,hW⟩))
       (refine detSeq_yes (by kernel_rfl) (.int .i64 (p:Int)) (fun W hW => ?_) ?_;focus (simp only [OpV];go_simp;try (first | exact rfl | exact hW | omega)))
       iterate 3 (refine detSeq_yes (by kernel_rfl) ?_ (fun W hW => ?_) ?_;rotate_left;(focus simp only [OpV];go_simp;first | exact rfl | exact ⟨rfl,hW⟩))
       (refine detSeq_yes (by kernel_rfl) (.bool (leB d.name pn)) (fun W hW => ?_) ?_;focus (simp only [OpV];go_simp;try (first | exact rfl | exact hW | exact ⟨rfl,hW⟩)))
       refine detSeq_nil (fun W3 hW3 => ?_)
       have HB3:=Lib.hid (HB2.out.trans (hW3.mono HB2.out.size))
       clear J2 K0 hW3
       have HLE:=Lib.hid (leB_iff d.name pn)
       generalize leB d.name pn = le at HLE ⊢
       cases le with
       | true =>
        have hv:=Lib.hid (HBAD.out 7 (HA3.out.trans (if_pos ⟨HPOS.out,HLE.out.1 rfl⟩)) (by omega))
        go_wp2_with fail
        go_ret
        exact ⟨ret_int hv.out.symm,HB3.out⟩
       | false =>
        have hok:=Lib.hid (HNX.out (HA3.out.trans (if_neg (fun c => by have:=HLE.out.2 c.2;cases this))))
        go_wp2_with fail
        go_roundw
        case rel => exact ⟨i + 1,by omega,by go_num,hok,HB3⟩
        case measure => simp [intOf];omega
     ·have k3:(ie != 0) = true:=by simpa using g3
      have hv:=Lib.hid (HBAD.out ie (HA1.out.trans (if_pos g3)) g3)
      clear g3
      go_wp2_with fail
      go_ret
      exact ⟨ret_int hv.out.symm,HB2.out⟩
   ·have hie:i = fs.length:=by omega
    subst hie
    have hv:=Lib.hid (HV.out.trans h0.out)
    go_wp2_with fail
    go_ret
    exact ⟨ret_int hv.out.symm,hb.out⟩
open Go.RowKit
theorem compareIds_b (a b:IdD) (w:World):Calls Tryz.prog 66 #[.agg #[.int .i64 a.kind,.string a.text],.agg #[.int .i64 b.kind,.string b.text]] w fun e w' => e = .returned (.int .i64 (idCmp a b)) ∧ Below w.heap.size w w' :=
 (compareIds_g a b w).mono fun e W' h => ⟨h.1,h.2.below⟩
set_option maxHeartbeats 4000000 in
set_option maxRecDepth 100000 in
theorem pcheckIds_any (H:Frz) (hM:MLen H) (A:Option Addr) (cap:Nat) (ids:List IdD) (w:World) (hH:H.In w) (hR:Rw H A 2 fId ids) (hl:ids.length ≤ 1000000) (hsz:∀ x ∈ ids,x.text.size ≤ 1000000) :
  Calls Tryz.prog 114 #[.slice A ids.length cap] w fun e w' => e = .returned (.int .i64 (idsO ids)) ∧ Below w.heap.size w w':=by
 have HCI:=Lib.hid (fun kind s W (hW:H.In W) hs => checkId_any H hM kind s W hW hs)
 have HR:=Lib.hid hR
 have HH:=Lib.hid hH
 have HS:=Lib.hid hsz
 clear hR hH hsz
 have HV:Hid (idsO ids = fstErr (idO1 ids) ids.length):=rfl
 go_enter Tryz.func114,Tryz.ntmps114
 go_wp2_with fail
 go_loopw [8] (fun t wr => ∃ i:Nat,i ≤ ids.length ∧ t = .int .i64 i ∧ Hid (fstErr (idO1 ids) i = 0) ∧ Hid (Below w.heap.size w wr)) (fun t _ => ids.length - (intOf t).toNat)
 case atStart => exact ⟨0,by omega,rfl,rfl,Below.refl _ _⟩
 case round =>
  obtain ⟨i,hi,rfl,h0,hb⟩:=hrel
  by_cases hlt:i < ids.length
  ·have hin:=HH.out.below hb.out
   obtain ⟨b,off,hA,hbl,hc⟩:=HR.out.at_ hin hlt (by omega)
   have hprev:Hid (∀ p,i = p + 1 → ∀ W',Below wr.heap.size wr W' → W'.cell? ⟨b,off + p * 2,none⟩ = some (.int .i64 (ids.getD (i - 1) ids[i]).kind) ∧ W'.cell? ⟨b,off + p * 2 + 1,none⟩ = some (.string (ids.getD (i - 1) ids[i]).text)):=by
    rintro p rfl W' hW'
    have hp:p < ids.length:=by omega
    obtain ⟨b',off',hA',hbl',hc'⟩:=HR.out.at_ hin hp (by omega)
    rw [hA] at hA'
    simp only [Option.some.injEq,Addr.mk.injEq] at hA'
    obtain ⟨rfl,rfl,_⟩:=hA'
    rw [Nat.add_sub_cancel,List.getD_eq_getElem?_getD,List.getElem?_eq_getElem hp,Option.getD_some]
    exact ⟨lift_cell (hc' 0 (by omega)) W' hW',lift_cell (hc' 1 (by omega)) W' hW'⟩
   subst hA
   have c0:wr.cell? ⟨b,off + i * 2,none⟩ = some (.int .i64 ids[i].kind):=hc 0 (by omega)
   have c1:wr.cell? ⟨b,off + i * 2 + 1,none⟩ = some (.string ids[i].text):=hc 1 (by omega)
   have HAT:=Lib.hid (idO1_at hlt)
   have HBAD:Hid (∀ n,idO1 ids i = n → n ≠ 0 → idsO ids = n):=fun n h1 h2 => HV.out.trans ((fstErr_bad hlt h0.out (by rw [h1];exact h2)).trans h1)
   have HNX:Hid (idO1 ids i = 0 → fstErr (idO1 ids) (i + 1) = 0):=fun h1 => fstErr_next h0.out h1
   have hks:=HS.out _ (List.getElem_mem hlt)
   clear hc
   generalize ids.getD (i - 1) ids[i] = pd at *
   generalize ids[i] = d at *
   have z0:(wr.alloc (.cells #[.int .i64 d.kind,.string d.text] 36)).cell? ⟨wr.heap.size,0,none⟩ = some (.int .i64 d.kind):=newc 0 rfl
   have z1:(wr.alloc (.cells #[.int .i64 d.kind,.string d.text] 36)).cell? ⟨wr.heap.size,1,none⟩ = some (.string d.text):=newc 1 rfl
   have HBN:=Lib.hid (new1 (w:=wr) (.cells #[.int .i64 d.kind,.string d.text] 36))
   go_upto_region 4 with (fail)
   clear c0 c1
   generalize wr.alloc (.cells #[.int .i64 d.kind,.string d.text] 36) = W1 at *
   have HB1:=Lib.hid (hb.out.trans (HBN.out.mono hb.out.size))
   have HBN2:=Lib.hid HBN.out
   have HIN1:=Lib.hid (hin.below HBN.out)
   clear hb h0 HBN hin
   go_wp2_with fail
   refine (HCI.out d.kind d.text _ HIN1.out hks).mono ?_
   rintro e W2 ⟨rfl,hb2⟩
   have HB2:=Lib.hid (HB1.out.trans (hb2.mono HB1.out.size))
   have HBN3:=Lib.hid (HBN2.out.trans (hb2.mono HBN2.out.size))
   have J0:=lift_cell z0
   have J1:=lift_cell z1
   have J2:∀ W,Below W2.heap.size W2 W → W.cell? ⟨wr.heap.size,0,none⟩ = some (.int .i64 d.kind):=fun W hW => J0 W (hb2.trans (hW.mono hb2.size))
   have J3:∀ W,Below W2.heap.size W2 W → W.cell? ⟨wr.heap.size,1,none⟩ = some (.string d.text):=fun W hW => J1 W (hb2.trans (hW.mono hb2.size))
   clear hb2 z0 z1 J0 J1
   generalize idErr d.kind d.text = ie at HAT ⊢
   by_cases g3:ie = 0
   ·have k3:(ie != 0) = false:=by simpa using g3
    have HA3:=Lib.hid (HAT.out.trans (if_neg (by simpa using g3)))
    clear g3 HAT
    go_wp2_with fail
    rcases Nat.eq_zero_or_pos i with h0 | hpos
    ·have d2:decide ((0:Int) < (i:Int)) = false:=by simp;omega
     have hok:=Lib.hid (HNX.out (HA3.out.trans (if_neg (by omega))))
     clear h0
     (refine wp_region_det 11 31 (fun W => Below (W2).heap.size (W2) W) (by kernel_rfl) (by kernel_rfl) (by rfl) (Below.refl _ _).drew ?_;simp only [List.take_succ_cons,List.take_zero,List.drop_succ_cons,List.drop_zero])
     iterate 1 (refine detSeq_op rfl ?_ (fun W hW => ?_) ?_;rotate_left;(focus simp only [OpV];go_simp;first | exact rfl | exact ⟨rfl,hW⟩))
     (refine detSeq_op rfl (.bool false) (fun W hW => ?_) ?_;focus (simp only [OpV];go_simp;try (first | exact rfl | exact hW | (have h9:=d2;simp at h9;omega))))
     iterate 1 (refine detSeq_op rfl ?_ (fun W hW => ?_) ?_;rotate_left;(focus simp only [OpV];go_simp;first | exact rfl | exact ⟨rfl,hW⟩))
     iterate 8 (refine detSeq_no (by kernel_rfl) ?_)
     refine detSeq_nil (fun W3 hW3 => ?_)
     have HB3:=Lib.hid (HB2.out.trans (hW3.mono HB2.out.size))
     clear J2 J3 hW3
     go_wp2_with fail
     go_roundw
     case rel => exact ⟨i + 1,by omega,by go_num,hok,HB3⟩
     case measure => simp [intOf];omega
    ·obtain ⟨p,hp⟩:∃ p,i = p + 1:=⟨i - 1,by omega⟩
     have d2:decide ((0:Int) < (i:Int)) = true:=by simp;omega
     have a1:IntKind.i64.wrap ((i:Int) - 1) = (p:Int):=by rw [show (i:Int) - 1 = p from by omega];exact IntWalk.i64_in _ (by omega)
     have a6:IntKind.i64.wrap (p:Int) = (p:Int):=IntWalk.i64_in _ (by omega)
     have a2:(i:Int) - 1 = (p:Int):=by omega
     have a3:(p:Int) < ids.length:=by omega
     have a4:(0:Int) ≤ (p:Int):=by omega
     have a5:p < ids.length:=by omega
     have K0:∀ W,Below W2.heap.size W2 W → W.cell? ⟨b,off + p * 2,none⟩ = some (.int .i64 pd.kind):=fun W hW => (hprev.out p hp W (HBN3.out.trans (hW.mono HBN3.out.size))).1
     have K1:∀ W,Below W2.heap.size W2 W → W.cell? ⟨b,off + p * 2 + 1,none⟩ = some (.string pd.text):=fun W hW => (hprev.out p hp W (HBN3.out.trans (hW.mono HBN3.out.size))).2
     have HPOS:Hid (0 < i):=hpos
     clear hp hpos
     (refine wp_region_det 11 31 (fun W => Below (W2).heap.size (W2) W) (by kernel_rfl) (by kernel_rfl) (by rfl) (Below.refl _ _).drew ?_;simp only [List.take_succ_cons,List.take_zero,List.drop_succ_cons,List.drop_zero])
     iterate 1 (refine detSeq_op rfl ?_ (fun W hW => ?_) ?_;rotate_left;(focus simp only [OpV];go_simp;first | exact rfl | exact ⟨rfl,hW⟩))
     (refine detSeq_op rfl (.bool true) (fun W hW => ?_) ?_;focus (simp only [OpV];go_simp;try (first | exact rfl | exact hW | (have h9:=d2;simp at h9;omega))))
     iterate 1 (refine detSeq_op rfl ?_ (fun W hW => ?_) ?_;rotate_left;(focus simp only [OpV];go_simp;first | exact rfl | exact ⟨rfl,hW⟩))
     iterate 3 (refine detSeq_yes (by kernel_rfl) ?_ (fun W hW => ?_) ?_;rotate_left;(focus simp only [OpV];go_simp;first | exact rfl | exact ⟨rfl,hW⟩))
     (refine detSeq_yes (by kernel_rfl) (.int .i64 (p:Int)) (fun W hW => ?_) ?_;focus (simp only [OpV];go_simp;try (first | exact rfl | exact hW | omega)))
     iterate 2 (refine detSeq_yes (by kernel_rfl) ?_ (fun W hW => ?_) ?_;rotate_left;(focus simp only [OpV];go_simp;first | exact rfl | exact ⟨rfl,hW⟩))
     (refine detSeq_yes (by kernel_rfl) ?_ (fun W hW => ?_) ?_;rotate_left;focus (simp only [OpV];go_simp;refine (compareIds_b d pd _).mono ?_;rintro e w' ⟨rfl,hb⟩;refine ⟨_,rfl,?_,det_back hW hb⟩;exact rfl))
     (refine detSeq_yes (by kernel_rfl) (.bool (decide (idCmp d pd ≤ 0))) (fun W hW => ?_) ?_;focus (simp only [OpV];go_simp;try (first | exact rfl | exact hW | exact ⟨rfl,hW⟩)))
     refine detSeq_nil (fun W3 hW3 => ?_)
     have HB3:=Lib.hid (HB2.out.trans (hW3.mono HB2.out.size))
     clear J2 J3 K0 K1 hW3
     by_cases hle:idCmp d pd ≤ 0
     ·have hd:decide (idCmp d pd ≤ 0) = true:=decide_eq_true hle
      have hv:=Lib.hid (HBAD.out 7 (HA3.out.trans (if_pos ⟨HPOS.out,hle⟩)) (by omega))
      rw [hd]
      clear hle hd
      go_wp2_with fail
      go_ret
      exact ⟨ret_int hv.out.symm,HB3.out⟩
     ·have hd:decide (idCmp d pd ≤ 0) = false:=decide_eq_false hle
      have hok:=Lib.hid (HNX.out (HA3.out.trans (if_neg (fun c => hle c.2))))
      rw [hd]
      clear hle hd
      go_wp2_with fail
      go_roundw
      case rel => exact ⟨i + 1,by omega,by go_num,hok,HB3⟩
      case measure => simp [intOf];omega
   ·have k3:(ie != 0) = true:=by simpa using g3
    have hv:=Lib.hid (HBAD.out ie (HAT.out.trans (if_pos g3)) g3)
    clear g3
    go_wp2_with fail
    go_ret
    exact ⟨ret_int hv.out.symm,HB2.out⟩
  ·have hie:i = ids.length:=by omega
   subst hie
   have hv:=Lib.hid (HV.out.trans h0.out)
   go_wp2_with fail
   go_ret
   exact ⟨ret_int hv.out.symm,hb.out⟩
end Go.Proofs.YtcncifmanodabaaGreatDoor
