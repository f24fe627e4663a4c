/- Texts of this claim, put together: ConsK4, ConsM, ConsM2. -/
import Derived.Test.YtcncifmanodabaaGreatDoorGAL
import Derived.Test.YtcncifmanodabaaGreatDoorGAE
import Derived.Test.YtcncifmanodabaaGreatDoorGAJ
import Derived.Test.YtcncifmanodabaaGreatDoorGAB
namespace Go.Proofs.YtcncifmanodabaaGreatDoor
set_option linter.unusedVariables false
open Go.RowKit
def idAt (ids:List IdD) (i:Nat):Int:=match ids[i]? with | none => 0 | some x => idErr x.kind x.text
theorem idAt_at {ids:List IdD} {i:Nat} (h:i < ids.length):idAt ids i = idErr ids[i].kind ids[i].text:=by
 unfold idAt;rw [List.getElem?_eq_getElem h]
def idsErr (ids:List IdD) (most:Int):Int:=if most < ids.length then 2 else fstErr (idAt ids) ids.length
set_option maxHeartbeats 2000000 in
set_option maxRecDepth 100000 in
theorem checkIds_any (H:Frz) (hM:MLen H) (A:Option Addr) (cap:Nat) (ids:List IdD) (most:Int) (w:World) (hH:H.In w) (hR:Rw H A 2 fId ids) (hl:ids.length ≤ 1000000) (hsz:∀ x ∈ ids,x.text.size ≤ 1000000) :
  Calls Tryz.prog 24 #[.slice A ids.length cap,.int .i64 most] w fun e w' => e = .returned (.int .i64 (idsErr ids most)) ∧ Below w.heap.size w w':=by
 have HCI:=Lib.hid (fun kind s W (hW:H.In W) hs => checkId_any H hM kind s W hW hs)
 have HR:=Lib.hid hR
 have HH:=Lib.hid hH
 have HS:=Lib.hid hsz
 clear hR hH hsz
 by_cases hlong:most < ids.length
 ·have h1:decide (most < (ids.length:Int)) = true:=by simpa using hlong
  have hv:Hid (idsErr ids most = 2):=by show _ = _;unfold idsErr;rw [if_pos hlong]
  clear hlong
  go_enter Tryz.func24,Tryz.ntmps24
  go_wp2_with fail
  go_ret
  exact ⟨ret_int hv.out.symm,Below.refl _ _⟩
 ·have h1:decide (most < (ids.length:Int)) = false:=by simpa using hlong
  have HV:Hid (idsErr ids most = fstErr (idAt ids) ids.length):=by show _ = _;unfold idsErr;rw [if_neg hlong]
  clear hlong
  go_enter Tryz.func24,Tryz.ntmps24
  go_wp2_with fail
  go_loopw [14] (fun t wr => ∃ i:Nat,i ≤ ids.length ∧ t = .int .i64 i ∧ Hid (fstErr (idAt ids) i = 0) ∧ Hid (Below w.heap.size w wr)) (fun t _ => ids.length - (intOf t).toNat)
  case atStart => exact ⟨0,by omega,rfl,rfl,Below.refl _ _⟩
  case round =>
   obtain ⟨i,hi,rfl,h0,hb⟩:=hrel
   by_cases hlt:i < ids.length
   ·have hin:=HH.out.below hb.out
    obtain ⟨b,off,rfl,hbl,hc⟩:=HR.out.at_ hin hlt (by omega)
    have c0:wr.cell? ⟨b,off + i * 2,none⟩ = some (.int .i64 ids[i].kind):=hc 0 (by omega)
    have c1:wr.cell? ⟨b,off + i * 2 + 1,none⟩ = some (.string ids[i].text):=hc 1 (by omega)
    have HAT:=Lib.hid (idAt_at hlt)
    have HBAD:Hid (∀ n,idAt ids i = n → n ≠ 0 → idsErr ids most = n):=fun n h1 h2 => HV.out.trans ((fstErr_bad hlt h0.out (by rw [h1];exact h2)).trans h1)
    have HNX:Hid (idAt ids i = 0 → fstErr (idAt ids) (i + 1) = 0):=fun h1 => fstErr_next h0.out h1
    have hks:=HS.out _ (List.getElem_mem hlt)
    clear hc
    generalize ids[i] = d at *
    have z0:(wr.alloc (.cells #[.int .i64 d.kind,.string d.text] 36)).cell? ⟨wr.heap.size,0,none⟩ = some (.int .i64 d.kind):=newc 0 rfl
    have z1:(wr.alloc (.cells #[.int .i64 d.kind,.string d.text] 36)).cell? ⟨wr.heap.size,1,none⟩ = some (.string d.text):=newc 1 rfl
    have HBN:=Lib.hid (new1 (w:=wr) (.cells #[.int .i64 d.kind,.string d.text] 36))
    go_upto_region 6 with (fail)
    clear c0 c1
    generalize wr.alloc (.cells #[.int .i64 d.kind,.string d.text] 36) = W1 at *
    have HB1:=Lib.hid (hb.out.trans (HBN.out.mono hb.out.size))
    have HIN1:=Lib.hid (hin.below HBN.out)
    clear hb h0 HBN hin
    go_wp2_with fail
    refine (HCI.out d.kind d.text _ HIN1.out hks).mono ?_
    rintro e W2 ⟨rfl,hb2⟩
    have HB2:=Lib.hid (HB1.out.trans (hb2.mono HB1.out.size))
    clear hb2 z0 z1
    generalize idErr d.kind d.text = ie at HAT ⊢
    by_cases g3:ie = 0
    ·have k3:(ie != 0) = false:=by simpa using g3
     have hok:=Lib.hid (HNX.out (HAT.out.trans g3))
     clear g3
     go_wp2_with fail
     go_roundw
     case rel => exact ⟨i + 1,by omega,by go_num,hok,HB2⟩
     case measure => simp [intOf];omega
    ·have k3:(ie != 0) = true:=by simpa using g3
     have hv:=Lib.hid (HBAD.out ie HAT.out g3)
     clear g3
     go_wp2_with fail
     go_ret
     exact ⟨ret_int hv.out.symm,HB2.out⟩
   ·have hie:i = ids.length:=by omega
    subst hie
    have hv:=Lib.hid (HV.out.trans h0.out)
    go_wp2_with fail
    go_ret
    exact ⟨ret_int hv.out.symm,hb.out⟩
set_option maxHeartbeats 2000000 in
set_option maxRecDepth 100000 in
theorem qCheck_any (H:Frz) (A:Option Addr) (cap:Nat) (ps:List PurD) (purp region:ByteArray) (ch at_:Int) (w:World) (hH:H.In w) (hP:PolIn H A ps) (hs:PurSorted ps) (hl:ps.length ≤ 1000000) (hsz:region.size ≤ 1000000) :
  Calls Tryz.prog 26 #[.agg #[.slice A ps.length cap,.string purp,.string region,.int .i64 ch,.int .i64 at_]] w fun e w' => e = .returned (.int .i64 (queErr ps purp region ch at_)) ∧ Below w.heap.size w w':=by
 have HV:Hid (queErr ps purp region ch at_ = if (purF ps purp).isNone = true then 8 else if isKey region = false then 5 else if chB ch = false then 4 else if ¬ (0 ≤ at_ ∧ at_ ≤ 4321439) then 1 else 0):=rfl
 have HB:=Lib.hid (new1 (w:=w) (.cells #[.slice A ps.length cap,.string purp,.string region,.int .i64 ch,.int .i64 at_] 74))
 have HPO:=Lib.hid (purposeOf_any H A cap ps purp _ (hH.alloc (.cells #[.slice A ps.length cap,.string purp,.string region,.int .i64 ch,.int .i64 at_] 74)) hP hs hl)
 have HK:=Lib.hid (heap_alloc_new w (.cells #[.slice A ps.length cap,.string purp,.string region,.int .i64 ch,.int .i64 at_] 74))
 clear hH hP hs
 go_enter Tryz.func26,Tryz.ntmps26
 go_wp2_with fail
 refine HPO.out.mono ?_
 rintro e w1 ⟨rfl,hb⟩
 have HPV:Hid (∃ nm sl,purV (purF ps purp) = .agg #[.string nm,sl] ∧ sl.oneCell' = true):=by
  show ∃ _,_
  cases purF ps purp with
  | none => exact ⟨_,_,rfl,rfl⟩
  | some p => exact ⟨_,_,rfl,rfl⟩
 obtain ⟨nm,sl,hpv,hpo⟩:=HPV.out
 rw [hpv]
 have HSN:Hid ((purF ps purp).isSome = !(purF ps purp).isNone):=by show _ = _;cases purF ps purp <;> rfl
 generalize (purF ps purp).isNone = nn at HV HSN
 generalize (purF ps purp).isSome = hs at HSN ⊢
 have hk1:=(hb.block _ (lt_of_heap HK.out)).trans HK.out
 have hk2:=(heap_lt (o:=.cells #[.string nm,sl] 66) (lt_of_heap hk1)).trans hk1
 have HB1:=Lib.hid (HB.out.trans (hb.mono HB.out.size))
 have HB2:=Lib.hid (HB1.out.alloc HB1.out.size (.cells #[.string nm,sl] 66))
 have hst:∀ (ad:Addr) (mo:Mode) (W:World),Sem.run Tryz.prog (store ad sl mo) W = stored Tryz.prog W ad sl mo:=fun ad mo W => run_store _ W ad _ mo hpo
 have q2:(w1.alloc (.cells #[.string nm,sl] 66)).cell? ⟨w.heap.size,2,none⟩ = some (.string region):=cell_h hk2 2 rfl
 have q3:(w1.alloc (.cells #[.string nm,sl] 66)).cell? ⟨w.heap.size,3,none⟩ = some (.int .i64 ch):=cell_h hk2 3 rfl
 have q4:(w1.alloc (.cells #[.string nm,sl] 66)).cell? ⟨w.heap.size,4,none⟩ = some (.int .i64 at_):=cell_h hk2 4 rfl
 clear hk1 hk2 hb HPO HK HPV hpv hpo
 go_upto_region 2 with (fail)
 generalize w1.alloc (.cells #[.string nm,sl] 66) = W2 at *
 clear hst
 cases nn with
 | true =>
  have hv:=Lib.hid (HV.out.trans (if_pos rfl))
  obtain rfl:=HSN.out
  go_wp2_with fail
  go_ret
  exact ⟨ret_int hv.out.symm,HB2.out⟩
 | false =>
  have HV1:=Lib.hid (HV.out.trans (if_neg (by simp)))
  obtain rfl:=HSN.out
  go_wp2_with fail
  refine (isKey_any region _ (by omega)).mono ?_
  rintro e w' ⟨rfl,rfl⟩
  generalize isKey region = kr at HV1 ⊢
  cases kr with
  | false =>
   have hv:=Lib.hid (HV1.out.trans (if_pos rfl))
   go_wp2_with fail
   go_ret
   exact ⟨ret_int hv.out.symm,HB2.out⟩
  | true =>
   have HV2:=Lib.hid (HV1.out.trans (if_neg (by simp)))
   go_wp2_with fail
   refine (isChannel_any ch _).mono ?_
   rintro e w' ⟨rfl,rfl⟩
   generalize chB ch = kc at HV2 ⊢
   cases kc with
   | false =>
    have hv:=Lib.hid (HV2.out.trans (if_pos rfl))
    go_wp2_with fail
    go_ret
    exact ⟨ret_int hv.out.symm,HB2.out⟩
   | true =>
    have HV3:=Lib.hid (HV2.out.trans (if_neg (by simp)))
    go_wp2_with fail
    refine (cwithin_any _ _ _ _).mono ?_
    rintro e w' ⟨rfl,rfl⟩
    by_cases g5:0 ≤ at_ ∧ at_ ≤ 4321439
    ·rw [show (decide ((0:Int) ≤ at_) && decide (at_ ≤ 4321439)) = true by simp;omega]
     have hv:=Lib.hid (HV3.out.trans (if_neg (by simpa using g5)))
     clear g5
     go_wp2_with fail
     go_ret
     exact ⟨ret_int hv.out.symm,HB2.out⟩
    ·rw [show (decide ((0:Int) ≤ at_) && decide (at_ ≤ 4321439)) = false by simp;omega]
     have hv:=Lib.hid (HV3.out.trans (if_pos g5))
     clear g5
     go_wp2_with fail
     go_ret
     exact ⟨ret_int hv.out.symm,HB2.out⟩
def allErr (ps:List PurD) (ss:List StD) (ids:List IdD) (most:Int) (purp region:ByteArray) (ch at_:Int):Int :=
 if sayErr idErr ps ss ≠ 0 then sayErr idErr ps ss else if idsErr ids most ≠ 0 then idsErr ids most else queErr ps purp region ch at_
theorem say_pol {idE:Int → ByteArray → Int} {ps:List PurD} {ss:List StD} (h:sayErr idE ps ss = 0):polErr ps = 0:=by
 unfold sayErr at h
 split at h
 ·rename_i c;exact absurd h c
 ·rename_i c;exact Classical.not_not.1 c
set_option maxHeartbeats 2000000 in
set_option maxRecDepth 100000 in
theorem checkAll_any (H:Frz) (hM:MLen H) (A:Option Addr) (cap:Nat) (ps:List PurD) (A2:Option Addr) (cap2:Nat) (ss:List StD) (A3:Option Addr) (cap3:Nat) (ids:List IdD) (most:Int) (purp region:ByteArray) (ch at_:Int) (w:World) (hH:H.In w)
  (hP:PolIn H A ps) (hl:ps.length ≤ 1000000) (hR:Rw H A2 8 fSt ss) (hl2:ss.length ≤ 1000000) (hsz:SzSt ss) (hR3:Rw H A3 2 fId ids) (hl3:ids.length ≤ 1000000) (hsz3:∀ x ∈ ids,x.text.size ≤ 1000000) (hrz:region.size ≤ 1000000) :
  Calls Tryz.prog 30 #[.agg #[.slice A ps.length cap,.string purp,.string region,.int .i64 ch,.int .i64 at_],.slice A2 ss.length cap2,.int .i64 most,.slice A3 ids.length cap3] w fun e w' => e = .returned (.int .i64 (allErr ps ss ids most purp region ch at_)) ∧ Below w.heap.size w w':=by
 have HV:Hid (allErr ps ss ids most purp region ch at_ = if sayErr idErr ps ss ≠ 0 then sayErr idErr ps ss else if idsErr ids most ≠ 0 then idsErr ids most else queErr ps purp region ch at_):=rfl
 have HB:=Lib.hid (new1 (w:=w) (.cells #[.slice A ps.length cap,.string purp,.string region,.int .i64 ch,.int .i64 at_] 74))
 have HK:=Lib.hid (heap_alloc_new w (.cells #[.slice A ps.length cap,.string purp,.string region,.int .i64 ch,.int .i64 at_] 74))
 have HIN:=Lib.hid (hH.alloc (.cells #[.slice A ps.length cap,.string purp,.string region,.int .i64 ch,.int .i64 at_] 74))
 have HCK:=Lib.hid (fun W (hW:H.In W) => check_any H hM A cap ps A2 cap2 ss W hW hP hl hR hl2 hsz)
 have HCI:=Lib.hid (fun W (hW:H.In W) => checkIds_any H hM A3 cap3 ids most W hW hR3 hl3 hsz3)
 have HCQ:=Lib.hid (fun (h0:sayErr idErr ps ss = 0) W (hW:H.In W) => qCheck_any H A cap ps purp region ch at_ W hW hP (pol_right (say_pol h0)).1 hl hrz)
 clear hH hP hR hsz hR3 hsz3
 generalize sayErr idErr ps ss = se at HV HCK HCQ
 generalize idsErr ids most = ie at HV HCI
 generalize queErr ps purp region ch at_ = qe at HV HCQ
 go_enter Tryz.func30,Tryz.ntmps30
 go_wp2_with fail
 refine (HCK.out _ HIN.out).mono ?_
 rintro e w1 ⟨rfl,hb⟩
 have HK1:=Lib.hid ((hb.block _ (lt_of_heap HK.out)).trans HK.out)
 have HIN1:=Lib.hid (HIN.out.below hb)
 have HB1:=Lib.hid (HB.out.trans (hb.mono HB.out.size))
 clear hb HK HIN HB HCK
 by_cases g1:se = 0
 ·have k1:(se != 0) = false:=by simpa using g1
  have HV1:=Lib.hid (HV.out.trans (if_neg (by simpa using g1)))
  have HCQ1:=Lib.hid (HCQ.out g1)
  clear g1 HV HCQ
  go_wp2_with fail
  refine (HCI.out _ HIN1.out).mono ?_
  rintro e w2 ⟨rfl,hb⟩
  have hk2:=(hb.block _ (lt_of_heap HK1.out)).trans HK1.out
  have HIN2:=Lib.hid (HIN1.out.below hb)
  have HB2:=Lib.hid (HB1.out.trans (hb.mono HB1.out.size))
  have q0:w2.cell? ⟨w.heap.size,0,none⟩ = some (.slice A ps.length cap):=cell_h hk2 0 rfl
  have q1:w2.cell? ⟨w.heap.size,1,none⟩ = some (.string purp):=cell_h hk2 1 rfl
  have q2:w2.cell? ⟨w.heap.size,2,none⟩ = some (.string region):=cell_h hk2 2 rfl
  have q3:w2.cell? ⟨w.heap.size,3,none⟩ = some (.int .i64 ch):=cell_h hk2 3 rfl
  have q4:w2.cell? ⟨w.heap.size,4,none⟩ = some (.int .i64 at_):=cell_h hk2 4 rfl
  clear hb HK1 HIN1 HB1 HCI hk2
  by_cases g2:ie = 0
  ·have k2:(ie != 0) = false:=by simpa using g2
   have HV2:=Lib.hid (HV1.out.trans (if_neg (by simpa using g2)))
   clear g2 HV1
   go_wp2_with fail
   refine (HCQ1.out _ HIN2.out).mono ?_
   rintro e w3 ⟨rfl,hb⟩
   have HB3:=Lib.hid (HB2.out.trans (hb.mono HB2.out.size))
   clear hb q0 q1 q2 q3 q4
   go_wp2_with fail
   go_ret
   exact ⟨ret_int HV2.out.symm,HB3.out⟩
  ·have k2:(ie != 0) = true:=by simpa using g2
   have hv:=Lib.hid (HV1.out.trans (if_pos g2))
   clear g2
   go_wp2_with fail
   go_ret
   exact ⟨ret_int hv.out.symm,HB2.out⟩
 ·have k1:(se != 0) = true:=by simpa using g1
  have hv:=Lib.hid (HV.out.trans (if_pos g1))
  clear g1
  go_wp2_with fail
  go_ret
  exact ⟨ret_int hv.out.symm,HB1.out⟩
open Go.RowKit
def AskPost (w:World) (o:Option TermD) (purp:ByteArray) (ss:List StD) (e:Ending) (w':World):Prop :=
 ∃ v,e = .returned (.agg #[.string (o.getD zeroTe).region,.int .i64 (o.getD zeroTe).ch,.bool (o.getD zeroTe).free,.int .i64 (o.getD zeroTe).days,.int .i64 (o.getD zeroTe).wait,.bool o.isSome,.string purp,v]) ∧ Orow w' w.heap.size 53 8 fSt v ss ∧ Below w.heap.size w w'
theorem terV_eq (o:Option TermD):∃ t:TermD,t = o.getD zeroTe ∧ terV o = .agg #[.string t.region,.int .i64 t.ch,.bool t.free,.int .i64 t.days,.int .i64 t.wait]:=⟨_,rfl,by cases o <;> rfl⟩
set_option maxHeartbeats 4000000 in
set_option maxRecDepth 100000 in
theorem ask_any (H:Frz) (A:Option Addr) (cap:Nat) (ps:List PurD) (purp region:ByteArray) (ch at_:Int) (A2:Option Addr) (cap2:Nat) (ss:List StD) (kind:Int) (text:ByteArray) (w:World) (hH:H.In w) (hP:PolIn H A ps) (hs:PurSorted ps) (hts:∀ p ∈ ps,TerSorted p.terms) (hl:ps.length ≤ 1000000)
  (hR:Rw H A2 8 fSt ss) (hl2:ss.length < 20) :
  Calls Tryz.prog 27 #[.agg #[.slice A ps.length cap,.string purp,.string region,.int .i64 ch,.int .i64 at_],.slice A2 ss.length cap2,.agg #[.int .i64 kind,.string text]] w (AskPost w (termF ps purp region ch) purp (saidF ss kind text ch)):=by
 have hsz:(((w.alloc (.cells #[.slice A ps.length cap,.string purp,.string region,.int .i64 ch,.int .i64 at_] 74)).alloc (.cells #[.int .i64 kind,.string text] 36)).alloc (.cells #[.string zeroTe.region,.int .i64 zeroTe.ch,.bool zeroTe.free,.int .i64 zeroTe.days,.int .i64 zeroTe.wait,.bool false,.string ⟨#[]⟩,.slice none 0 0] 81)).heap.size = w.heap.size + 3:=by simp
 have hk1:(((w.alloc (.cells #[.slice A ps.length cap,.string purp,.string region,.int .i64 ch,.int .i64 at_] 74)).alloc (.cells #[.int .i64 kind,.string text] 36)).alloc (.cells #[.string zeroTe.region,.int .i64 zeroTe.ch,.bool zeroTe.free,.int .i64 zeroTe.days,.int .i64 zeroTe.wait,.bool false,.string ⟨#[]⟩,.slice none 0 0] 81)).heap[w.heap.size]? = some (.cells #[.slice A ps.length cap,.string purp,.string region,.int .i64 ch,.int .i64 at_] 74):=(heap_lt (by simp;omega)).trans ((heap_lt (by simp)).trans (heap_alloc_new _ _))
 have hk2:(((w.alloc (.cells #[.slice A ps.length cap,.string purp,.string region,.int .i64 ch,.int .i64 at_] 74)).alloc (.cells #[.int .i64 kind,.string text] 36)).alloc (.cells #[.string zeroTe.region,.int .i64 zeroTe.ch,.bool zeroTe.free,.int .i64 zeroTe.days,.int .i64 zeroTe.wait,.bool false,.string ⟨#[]⟩,.slice none 0 0] 81)).heap[w.heap.size + 1]? = some (.cells #[.int .i64 kind,.string text] 36):=(heap_lt (by simp)).trans (heap_at (by simp))
 have hk3:(((w.alloc (.cells #[.slice A ps.length cap,.string purp,.string region,.int .i64 ch,.int .i64 at_] 74)).alloc (.cells #[.int .i64 kind,.string text] 36)).alloc (.cells #[.string zeroTe.region,.int .i64 zeroTe.ch,.bool zeroTe.free,.int .i64 zeroTe.days,.int .i64 zeroTe.wait,.bool false,.string ⟨#[]⟩,.slice none 0 0] 81)).heap[w.heap.size + 2]? = some (.cells #[.string zeroTe.region,.int .i64 zeroTe.ch,.bool zeroTe.free,.int .i64 zeroTe.days,.int .i64 zeroTe.wait,.bool false,.string ⟨#[]⟩,.slice none 0 0] 81):=heap_at (by simp)
 have HB:=Lib.hid ((new2 (w:=w) (.cells #[.slice A ps.length cap,.string purp,.string region,.int .i64 ch,.int .i64 at_] 74) (.cells #[.int .i64 kind,.string text] 36)).alloc (by simp;omega) (.cells #[.string zeroTe.region,.int .i64 zeroTe.ch,.bool zeroTe.free,.int .i64 zeroTe.days,.int .i64 zeroTe.wait,.bool false,.string ⟨#[]⟩,.slice none 0 0] 81))
 have HIN:=Lib.hid (((hH.alloc (.cells #[.slice A ps.length cap,.string purp,.string region,.int .i64 ch,.int .i64 at_] 74)).alloc (.cells #[.int .i64 kind,.string text] 36)).alloc (.cells #[.string zeroTe.region,.int .i64 zeroTe.ch,.bool zeroTe.free,.int .i64 zeroTe.days,.int .i64 zeroTe.wait,.bool false,.string ⟨#[]⟩,.slice none 0 0] 81))
 have HTE:=Lib.hid (fun W (hW:H.In W) => termOf_any H A cap ps purp region ch W hW hP hs hts hl)
 have HSD:=Lib.hid (fun W (hW:H.In W) => saidBy_any H A2 cap2 ss kind text ch W hW hR hl2)
 have HK1:=Lib.hid hk1
 have HK2:=Lib.hid hk2
 have HK3:=Lib.hid hk3
 clear hsz hk1 hk2 hk3 hH hP hs hts hR
 generalize termF ps purp region ch = o at HTE ⊢
 generalize saidF ss kind text ch = sd at HSD ⊢
 unfold zeroTe at HK1 HK2 HK3 HB HIN
 simp only at HK1 HK2 HK3 HB HIN
 go_enter Tryz.func27,Tryz.ntmps27
 go_wp2_with fail
 refine (HTE.out _ HIN.out).mono ?_
 rintro e w1 ⟨rfl,hb⟩
 obtain ⟨t,ht,htv⟩:=terV_eq o
 rw [htv]
 have hk1:=(hb.block _ (lt_of_heap HK1.out)).trans HK1.out
 have hk2:=(hb.block _ (lt_of_heap HK2.out)).trans HK2.out
 have hk3:=(hb.block _ (lt_of_heap HK3.out)).trans HK3.out
 have HB1:=Lib.hid (HB.out.trans (hb.mono HB.out.size))
 have HIN1:=Lib.hid (HIN.out.below hb)
 have HB2:=Lib.hid (HB1.out.alloc HB1.out.size (.cells #[.string t.region,.int .i64 t.ch,.bool t.free,.int .i64 t.days,.int .i64 t.wait] 68))
 have HIN2:=Lib.hid (HIN1.out.alloc (.cells #[.string t.region,.int .i64 t.ch,.bool t.free,.int .i64 t.days,.int .i64 t.wait] 68))
 have z0:(w1.alloc (.cells #[.string t.region,.int .i64 t.ch,.bool t.free,.int .i64 t.days,.int .i64 t.wait] 68)).cell? ⟨w1.heap.size,0,none⟩ = some (.string t.region):=newc 0 rfl
 have z1:(w1.alloc (.cells #[.string t.region,.int .i64 t.ch,.bool t.free,.int .i64 t.days,.int .i64 t.wait] 68)).cell? ⟨w1.heap.size,1,none⟩ = some (.int .i64 t.ch):=newc 1 rfl
 have z2:(w1.alloc (.cells #[.string t.region,.int .i64 t.ch,.bool t.free,.int .i64 t.days,.int .i64 t.wait] 68)).cell? ⟨w1.heap.size,2,none⟩ = some (.bool t.free):=newc 2 rfl
 have z3:(w1.alloc (.cells #[.string t.region,.int .i64 t.ch,.bool t.free,.int .i64 t.days,.int .i64 t.wait] 68)).cell? ⟨w1.heap.size,3,none⟩ = some (.int .i64 t.days):=newc 3 rfl
 have z4:(w1.alloc (.cells #[.string t.region,.int .i64 t.ch,.bool t.free,.int .i64 t.days,.int .i64 t.wait] 68)).cell? ⟨w1.heap.size,4,none⟩ = some (.int .i64 t.wait):=newc 4 rfl
 have hk1a:=(heap_lt (o:=(.cells #[.string t.region,.int .i64 t.ch,.bool t.free,.int .i64 t.days,.int .i64 t.wait] 68)) (lt_of_heap hk1)).trans hk1
 have hk2a:=(heap_lt (o:=(.cells #[.string t.region,.int .i64 t.ch,.bool t.free,.int .i64 t.days,.int .i64 t.wait] 68)) (lt_of_heap hk2)).trans hk2
 have hk3a:=(heap_lt (o:=(.cells #[.string t.region,.int .i64 t.ch,.bool t.free,.int .i64 t.days,.int .i64 t.wait] 68)) (lt_of_heap hk3)).trans hk3
 have q1:(w1.alloc (.cells #[.string t.region,.int .i64 t.ch,.bool t.free,.int .i64 t.days,.int .i64 t.wait] 68)).cell? ⟨w.heap.size,1,none⟩ = some (.string purp):=cell_h hk1a 1 rfl
 have q3:(w1.alloc (.cells #[.string t.region,.int .i64 t.ch,.bool t.free,.int .i64 t.days,.int .i64 t.wait] 68)).cell? ⟨w.heap.size,3,none⟩ = some (.int .i64 ch):=cell_h hk1a 3 rfl
 have i0:(w1.alloc (.cells #[.string t.region,.int .i64 t.ch,.bool t.free,.int .i64 t.days,.int .i64 t.wait] 68)).cell? ⟨w.heap.size + 1,0,none⟩ = some (.int .i64 kind):=cell_h hk2a 0 rfl
 have i1:(w1.alloc (.cells #[.string t.region,.int .i64 t.ch,.bool t.free,.int .i64 t.days,.int .i64 t.wait] 68)).cell? ⟨w.heap.size + 1,1,none⟩ = some (.string text):=cell_h hk2a 1 rfl
 have HK3A:=Lib.hid hk3a
 have HTT:=Lib.hid ht
 generalize hhas:o.isSome = has
 have HHAS:=Lib.hid hhas
 clear hhas
 clear hb hk1 hk2 hk3 hk1a hk2a hk3a HK1 HK2 HK3 HB HIN HB1 HIN1 htv ht HTE
 go_upto_region 2 with (fail)
 generalize w1.alloc (.cells #[.string t.region,.int .i64 t.ch,.bool t.free,.int .i64 t.days,.int .i64 t.wait] 68) = W2 at *
 have K0:=lift_cell z0
 have K1:=lift_cell z1
 have K2:=lift_cell z2
 have K3:=lift_cell z3
 have K4:=lift_cell z4
 have L1:=lift_cell q1
 have L3:=lift_cell q3
 have M0:=lift_cell i0
 have M1:=lift_cell i1
 clear z0 z1 z2 z3 z4 q1 q3 i0 i1
 have hwq:w.heap.size ≤ W2.heap.size:=HB2.out.size
 (refine wp_region_detE 8 31 (fun W => Below (W2).heap.size (W2) W) (fun v W => Orow W W2.heap.size 53 8 fSt v sd) (by kernel_rfl) (by kernel_rfl) (by rfl) (fun _ _ _ hb h => Orow.below h hb) (Below.refl _ _).drew _ rfl rfl ?_;simp only [List.take_succ_cons,List.take_zero,List.drop_succ_cons,List.drop_zero])
 iterate 8 (refine detSeqE_op rfl ?_ (fun W hW => ?_) ?_;rotate_left;(focus simp only [OpV];go_simp;first | exact rfl | (refine ⟨?_,Below.refl _ _⟩;exact rfl) | (refine ⟨?_,hW,Below.refl _ _⟩;exact rfl)))
 refine detSeqE_nil ⟨fun W hW => ?_,fun v W3 hW3 hO => ?_⟩
 ·simp only [OpV]
  go_simp
  refine (HSD.out W (HIN2.out.below hW)).mono ?_
  rintro e w' ⟨v,rfl,hO,hb⟩
  exact ⟨v,rfl,hO.mono hW.size,det_back hW hb⟩
 ·obtain ⟨Av,cv,rfl,hcv⟩:=hO.slice
  have hk3:=(hW3.block _ (lt_of_heap HK3A.out)).trans HK3A.out
  have HB3:=Lib.hid (HB2.out.trans (hW3.mono HB2.out.size))
  have HO3:=Lib.hid hO
  have x0:W3.cell? ⟨w.heap.size + 2,0,none⟩ = some (.string ⟨#[]⟩):=cell_h hk3 0 rfl
  have x1:W3.cell? ⟨w.heap.size + 2,1,none⟩ = some (.int .i64 0):=cell_h hk3 1 rfl
  have x2:W3.cell? ⟨w.heap.size + 2,2,none⟩ = some (.bool false):=cell_h hk3 2 rfl
  have x3:W3.cell? ⟨w.heap.size + 2,3,none⟩ = some (.int .i64 0):=cell_h hk3 3 rfl
  have x4:W3.cell? ⟨w.heap.size + 2,4,none⟩ = some (.int .i64 0):=cell_h hk3 4 rfl
  have x5:W3.cell? ⟨w.heap.size + 2,5,none⟩ = some (.bool false):=cell_h hk3 5 rfl
  have x6:W3.cell? ⟨w.heap.size + 2,6,none⟩ = some (.string ⟨#[]⟩):=cell_h hk3 6 rfl
  have x7:W3.cell? ⟨w.heap.size + 2,7,none⟩ = some (.slice none 0 0):=cell_h hk3 7 rfl
  have y0:=froz_h hk3 0
  have y1:=froz_h hk3 1
  have y2:=froz_h hk3 2
  have y3:=froz_h hk3 3
  have y4:=froz_h hk3 4
  have y5:=froz_h hk3 5
  have y6:=froz_h hk3 6
  have y7:=froz_h hk3 7
  have hq2:w.heap.size + 2 < W2.heap.size:=lt_of_heap HK3A.out
  have HK9:=Lib.hid (set8 hk3 (.string t.region) (.int .i64 t.ch) (.bool t.free) (.int .i64 t.days) (.int .i64 t.wait) (.bool has) (.string purp) (.slice Av sd.length cv))
  have HB9:=Lib.hid (below_set8 HB3.out (show w.heap.size ≤ w.heap.size + 2 by omega) (.string t.region) (.int .i64 t.ch) (.bool t.free) (.int .i64 t.days) (.int .i64 t.wait) (.bool has) (.string purp) (.slice Av sd.length cv))
  have HO9:=Lib.hid ((HO3.out.far (grown_set8 W3 (w.heap.size + 2) (.string t.region) (.int .i64 t.ch) (.bool t.free) (.int .i64 t.days) (.int .i64 t.wait) (.bool has) (.string purp) (.slice Av sd.length cv)) hq2).mono hwq)
  clear K0 K1 K2 K3 K4 L1 L3 M0 M1 hk3 hO hW3 HSD
  go_wp2_with fail
  have u0:=cell_h HK9.out 0 (v:=.string t.region) rfl
  have u1:=cell_h HK9.out 1 (v:=.int .i64 t.ch) rfl
  have u2:=cell_h HK9.out 2 (v:=.bool t.free) rfl
  have u3:=cell_h HK9.out 3 (v:=.int .i64 t.days) rfl
  have u4:=cell_h HK9.out 4 (v:=.int .i64 t.wait) rfl
  have u5:=cell_h HK9.out 5 (v:=.bool has) rfl
  have u6:=cell_h HK9.out 6 (v:=.string purp) rfl
  have u7:=cell_h HK9.out 7 (v:=.slice Av sd.length cv) rfl
  refine bodyPost_ret (v:=.agg #[.string t.region,.int .i64 t.ch,.bool t.free,.int .i64 t.days,.int .i64 t.wait,.bool has,.string purp,.slice Av sd.length cv]) (by simp [results,Tryz.results27,go_sem,u0,u1,u2,u3,u4,u5,u6,u7]) rfl ⟨.slice Av sd.length cv,?_,HO9.out,HB9.out⟩
  rw [← HTT.out,HHAS.out]
open Go.RowKit
theorem idsErr_one (kind:Int) (text:ByteArray):idsErr [⟨kind,text⟩] 1 = idErr kind text:=by
 unfold idsErr
 rw [if_neg (by simp)]
 rfl
theorem all_right {ps:List PurD} {ss:List StD} {ids:List IdD} {most:Int} {purp region:ByteArray} {ch at_:Int} (h:allErr ps ss ids most purp region ch at_ = 0) :
  sayErr idErr ps ss = 0 ∧ idsErr ids most = 0 ∧ queErr ps purp region ch at_ = 0:=by
 unfold allErr at h
 split at h
 ·rename_i c;exact absurd h c
 ·rename_i c
  split at h
  ·rename_i c2;exact absurd h c2
  ·rename_i c2;exact ⟨Classical.not_not.1 c,Classical.not_not.1 c2,h⟩
theorem say_bd {ps:List PurD} {ss:List StD} (h:sayErr idErr ps ss = 0):Bd ss:=by
 intro s hs
 obtain ⟨i,hi,rfl⟩:=List.mem_iff_getElem.1 hs
 unfold sayErr at h
 split at h
 ·rename_i c;exact absurd h c
 ·split at h
  ·omega
  ·rw [fstErr_zero] at h
   have h2:=h i hi
   rw [stErr_at idErr hi] at h2
   split at h2
   ·omega
   ·split at h2
    ·omega
    ·split at h2
     ·omega
     ·rename_i c
      have:=Classical.not_not.1 c
      omega
theorem que_at {ps:List PurD} {purp region:ByteArray} {ch at_:Int} (h:queErr ps purp region ch at_ = 0):0 ≤ at_ ∧ at_ ≤ 4321439:=by
 unfold queErr at h
 split at h
 ·omega
 ·split at h
  ·omega
  ·split at h
   ·omega
   ·split at h
    ·omega
    ·rename_i c;exact Classical.not_not.1 c
theorem term_tb {ps:List PurD} (h:polErr ps = 0) {purp region:ByteArray} {ch:Int}:∀ t,termF ps purp region ch = some t → TB t:=by
 intro t ht
 unfold termF at ht
 cases e:purF ps purp with
 | none => rw [e] at ht;cases ht
 | some p =>
  rw [e] at ht
  simp only at ht
  have hp:=List.mem_of_find?_eq_some e
  have htm:=List.mem_of_find?_eq_some ht
  exact (tes_right ((pol_right h).2 p hp)).2 t htm
theorem said_bd {ss:List StD} (h:Bd ss) (kind:Int) (text:ByteArray) (ch:Int):Bd (saidF ss kind text ch):=fun s hs => h s (List.mem_filter.1 ((isort_perm _ _).mem_iff.1 hs)).1
theorem said_len (ss:List StD) (kind:Int) (text:ByteArray) (ch:Int):(saidF ss kind text ch).length ≤ ss.length:=by
 unfold saidF
 rw [isort_length]
 exact List.length_filter_le _ _
end Go.Proofs.YtcncifmanodabaaGreatDoor
