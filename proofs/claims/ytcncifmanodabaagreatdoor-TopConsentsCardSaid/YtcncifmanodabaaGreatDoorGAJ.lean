/- Texts of this claim, put together: ConsS, ConsK, LeB, ConsK2. -/
import Derived.Test.YtcncifmanodabaaGreatDoorGAH
import Derived.Test.YtcncifmanodabaaGreatDoorGAI
import Derived.Test.YtcncifmanodabaaGreatDoorGAF
import Derived.Test.YtcncifmanodabaaGreatDoorGAC
import Derived.Test.YtcncifmanodabaaGreatDoorGAD
import Derived.WalkLawsBesides
namespace Go.Proofs.YtcncifmanodabaaGreatDoor
set_option linter.unusedVariables false
open Go.RowKit
def SaidPost (w:World) (ss:List StD) (e:Ending) (w':World):Prop:=∃ v,e = .returned v ∧ Orow w' w.heap.size 53 8 fSt v ss ∧ Below w.heap.size w w'
set_option maxHeartbeats 4000000 in
set_option maxRecDepth 100000 in
theorem saidBy_any (H:Frz) (A:Option Addr) (cap:Nat) (ss:List StD) (kind:Int) (text:ByteArray) (ch:Int) (w:World) (hH:H.In w) (hR:Rw H A 8 fSt ss) (hl:ss.length < 20) :
  Calls Tryz.prog 54 #[.slice A ss.length cap,.agg #[.int .i64 kind,.string text],.int .i64 ch] w (SaidPost w (saidF ss kind text ch)):=by
 obtain ⟨i0,hi0,hz0,hz1,hz2⟩:=info_parts infoSta
 have HR:=Lib.hid hR
 have HH:=Lib.hid hH
 have HI0:Hid (Orow (w.alloc (.cells #[.int .i64 kind,.string text] 36)) (w.heap.size + 1) 53 8 fSt (.slice none 0 0) ((ss.take 0).filter (ownB kind text ch)) ∧ Below w.heap.size w (w.alloc (.cells #[.int .i64 kind,.string text] 36)) ∧ (w.alloc (.cells #[.int .i64 kind,.string text] 36)).heap[w.heap.size]? = some (.cells #[.int .i64 kind,.string text] 36 (0,0))):=⟨Orow.nil _ _ _ _ _,new1 _,heap_alloc_new _ _⟩
 clear hR hH
 go_enter Tryz.func54,Tryz.ntmps54
 go_wp2_with fail
 go_loopw [7,12] (fun v t wr => ∃ i:Nat,i ≤ ss.length ∧ t = .int .i64 i ∧ Hid (Orow wr (w.heap.size + 1) 53 8 fSt v ((ss.take i).filter (ownB kind text ch)) ∧ Below w.heap.size w wr ∧ wr.heap[w.heap.size]? = some (.cells #[.int .i64 kind,.string text] 36 (0,0)))) (fun _ t _ => ss.length - (intOf t).toNat)
 case atStart => exact ⟨0,by omega,rfl,HI0⟩
 case round =>
  obtain ⟨i,hi,rfl,hI⟩:=hrel
  obtain ⟨hor,hb,hk⟩:=hI.out
  clear HI0
  by_cases hlt:i < ss.length
  ·obtain ⟨b,off,rfl,hbl,hc⟩:=HR.out.at_ (HH.out.below hb) hlt (by omega)
   have c0:wr.cell? ⟨b,off + i * 8,none⟩ = some (.int .i64 ss[i].no):=hc 0 (by omega)
   have c1:wr.cell? ⟨b,off + i * 8 + 1,none⟩ = some (.int .i64 ss[i].at_):=hc 1 (by omega)
   have c2:wr.cell? ⟨b,off + i * 8 + 2,none⟩ = some (.int .i64 ss[i].kind):=hc 2 (by omega)
   have c3:wr.cell? ⟨b,off + i * 8 + 3,none⟩ = some (.string ss[i].text):=hc 3 (by omega)
   have c4:wr.cell? ⟨b,off + i * 8 + 4,none⟩ = some (.string ss[i].purp):=hc 4 (by omega)
   have c5:wr.cell? ⟨b,off + i * 8 + 5,none⟩ = some (.string ss[i].region):=hc 5 (by omega)
   have c6:wr.cell? ⟨b,off + i * 8 + 6,none⟩ = some (.int .i64 ss[i].ch):=hc 6 (by omega)
   have c7:wr.cell? ⟨b,off + i * 8 + 7,none⟩ = some (.int .i64 ss[i].what):=hc 7 (by omega)
   have HSN:=Lib.hid (filter_snoc (ownB kind text ch) hlt)
   have hlen:((ss.take i).filter (ownB kind text ch)).length ≤ 1000000:=by
    have:=List.length_filter_le (ownB kind text ch) (ss.take i)
    have:=List.length_take_le i ss
    omega
   clear hc
   generalize ss[i] = d at *
   have z0:(wr.alloc (.cells #[.int .i64 d.no,.int .i64 d.at_,.int .i64 d.kind,.string d.text,.string d.purp,.string d.region,.int .i64 d.ch,.int .i64 d.what] 53)).cell? ⟨wr.heap.size,0,none⟩ = some (.int .i64 d.no):=newc 0 rfl
   have z1:(wr.alloc (.cells #[.int .i64 d.no,.int .i64 d.at_,.int .i64 d.kind,.string d.text,.string d.purp,.string d.region,.int .i64 d.ch,.int .i64 d.what] 53)).cell? ⟨wr.heap.size,1,none⟩ = some (.int .i64 d.at_):=newc 1 rfl
   have z2:(wr.alloc (.cells #[.int .i64 d.no,.int .i64 d.at_,.int .i64 d.kind,.string d.text,.string d.purp,.string d.region,.int .i64 d.ch,.int .i64 d.what] 53)).cell? ⟨wr.heap.size,2,none⟩ = some (.int .i64 d.kind):=newc 2 rfl
   have z3:(wr.alloc (.cells #[.int .i64 d.no,.int .i64 d.at_,.int .i64 d.kind,.string d.text,.string d.purp,.string d.region,.int .i64 d.ch,.int .i64 d.what] 53)).cell? ⟨wr.heap.size,3,none⟩ = some (.string d.text):=newc 3 rfl
   have z4:(wr.alloc (.cells #[.int .i64 d.no,.int .i64 d.at_,.int .i64 d.kind,.string d.text,.string d.purp,.string d.region,.int .i64 d.ch,.int .i64 d.what] 53)).cell? ⟨wr.heap.size,4,none⟩ = some (.string d.purp):=newc 4 rfl
   have z5:(wr.alloc (.cells #[.int .i64 d.no,.int .i64 d.at_,.int .i64 d.kind,.string d.text,.string d.purp,.string d.region,.int .i64 d.ch,.int .i64 d.what] 53)).cell? ⟨wr.heap.size,5,none⟩ = some (.string d.region):=newc 5 rfl
   have z6:(wr.alloc (.cells #[.int .i64 d.no,.int .i64 d.at_,.int .i64 d.kind,.string d.text,.string d.purp,.string d.region,.int .i64 d.ch,.int .i64 d.what] 53)).cell? ⟨wr.heap.size,6,none⟩ = some (.int .i64 d.ch):=newc 6 rfl
   have z7:(wr.alloc (.cells #[.int .i64 d.no,.int .i64 d.at_,.int .i64 d.kind,.string d.text,.string d.purp,.string d.region,.int .i64 d.ch,.int .i64 d.what] 53)).cell? ⟨wr.heap.size,7,none⟩ = some (.int .i64 d.what):=newc 7 rfl
   have HBN:=Lib.hid (new1 (w:=wr) (.cells #[.int .i64 d.no,.int .i64 d.at_,.int .i64 d.kind,.string d.text,.string d.purp,.string d.region,.int .i64 d.ch,.int .i64 d.what] 53))
   go_upto_region 5 with (fail)
   clear c0 c1 c2 c3 c4 c5 c6 c7
   have hk1:=(HBN.out.block _ (lt_of_heap hk)).trans hk
   have hne:¬ wr.heap.size = w.heap.size:=by have:=lt_of_heap hk;omega
   have hne':¬ w.heap.size = wr.heap.size:=by omega
   have HO1:=Lib.hid (hor.below HBN.out)
   generalize wr.alloc (.cells #[.int .i64 d.no,.int .i64 d.at_,.int .i64 d.kind,.string d.text,.string d.purp,.string d.region,.int .i64 d.ch,.int .i64 d.what] 53) = W1 at *
   have HB1:=Lib.hid (hb.trans (HBN.out.mono hb.size))
   have HK1:=Lib.hid hk1
   have x0:W1.cell? ⟨w.heap.size,0,none⟩ = some (.int .i64 kind):=cell_h hk1 0 rfl
   have x1:W1.cell? ⟨w.heap.size,1,none⟩ = some (.string text):=cell_h hk1 1 rfl
   have hBw:w.heap.size + 1 ≤ W1.heap.size:=lt_of_heap hk1
   generalize (ss.take i).filter (ownB kind text ch) = ds at HO1 HSN hlen
   clear hb HBN hk1 hk hor hI
   by_cases hall:ownB kind text ch d = true
   ·have HS:=Lib.hid (HSN.out.trans (by rw [if_pos hall]))
    obtain ⟨⟨h1,h2⟩,h3⟩:((decide (d.kind = kind) = true ∧ eqS d.text text = true) ∧ decide (d.ch = ch) = true):=by simpa only [ownB,Bool.and_eq_true] using hall
    have k1:(d.kind == kind) = true:=by simpa using h1
    have k2:(d.text.toList == text.toList) = true:=h2
    have k3:(d.ch == ch) = true:=by simpa using h3
    clear hall h1 h2 h3
    go_wp2_with (at_builtin;refine wpList_app_at rfl _ _ 79 rfl (w.heap.size + 1) 53 i0 (.agg #[.int .i64 0,.int .i64 0,.int .i64 0,.string ⟨#[]⟩,.string ⟨#[]⟩,.string ⟨#[]⟩,.int .i64 0,.int .i64 0]) 8 88 Tryz.underlying79 hi0 hz0 hz1 hz2 rfl (by decide) fSt _ ds rfl HO1.out d #[.int .i64 d.no,.int .i64 d.at_,.int .i64 d.kind,.string d.text,.string d.purp,.string d.region,.int .i64 d.ch,.int .i64 d.what] 53 rfl rfl (by simp [Value.oneCell']) (by omega) (by omega) hBw ?_;intro v1 w2 o1 g1 b1 at1;have HO2:=Lib.hid o1;have HB2:=Lib.hid (HB1.out.trans (b1.mono (by omega)));have HK2:=Lib.hid ((b1.block w.heap.size (by omega)).trans HK1.out);clear o1 g1 b1 at1)
    rw [← HS.out] at HO2
    have HF:=Lib.hid (And.intro HO2.out (And.intro HB2.out HK2.out))
    go_roundw
    case rel => exact ⟨i + 1,by omega,by go_num,HF⟩
    case measure => simp [intOf];omega
   ·have HS:=Lib.hid (HSN.out.trans (by rw [if_neg hall,List.append_nil]))
    rw [← HS.out] at HO1
    have HF:=Lib.hid (And.intro HO1.out (And.intro HB1.out HK1.out))
    cases k1:(d.kind == kind) with
    | false =>
     clear hall
     go_wp2_with fail
     go_roundw
     case rel => exact ⟨i + 1,by omega,by go_num,HF⟩
     case measure => simp [intOf];omega
    | true =>
     cases k2:(d.text.toList == text.toList) with
     | false =>
      clear hall
      go_wp2_with fail
      go_roundw
      case rel => exact ⟨i + 1,by omega,by go_num,HF⟩
      case measure => simp [intOf];omega
     | true =>
      have k3:(d.ch == ch) = false:=by
       cases k3:(d.ch == ch) with
       | false => rfl
       | true =>
        exfalso
        apply hall
        have e1:decide (d.kind = kind) = true:=by simpa using k1
        have e2:eqS d.text text = true:=k2
        have e3:decide (d.ch = ch) = true:=by simpa using k3
        rw [show ownB kind text ch d = ((decide (d.kind = kind) && eqS d.text text) && decide (d.ch = ch)) from rfl,e1,e2,e3];rfl
      clear hall
      go_wp2_with fail
      go_roundw
      case rel => exact ⟨i + 1,by omega,by go_num,HF⟩
      case measure => simp [intOf];omega
  ·have hie:i = ss.length:=by omega
   subst hie
   obtain ⟨vg,rfl⟩:∃ vg:Value,vg = u7:=⟨_,rfl⟩
   rw [List.take_length] at hor
   have hfl:(ss.filter (ownB kind text ch)).length < 20:=by have:=List.length_filter_le (ownB kind text ch) ss;omega
   have hso:=sortStable_Sta H fSt 95 [] stCmp (ss.filter (ownB kind text ch)) (fun d _ m => by
    match m with
    | 0 => rfl
    | 1 => rfl
    | 2 => rfl
    | 3 => rfl
    | 4 => rfl
    | 5 => rfl
    | 6 => rfl
    | n + 7 => rfl) (fun W a b _ _ _ => saidOrd_any a b W) (fun _ _ _ => by kernel_rfl) vg (w.heap.size + 1) wr hfl ((HH.out.below hb)) (fun g hg => HH.out.none_ (by have:=(hor.lt hg).1;omega)) hor
   have HSO:=Lib.hid hso
   have HB:=Lib.hid hb
   have HVG:Hid (∀ g,vg.ownBlock = some g → w.heap.size ≤ g):=fun g hg => by have:=(hor.lt hg).1;omega
   have HV:Hid (isort (fun a b => decide (stCmp a b < 0)) (ss.filter (ownB kind text ch)) = saidF ss kind text ch):=rfl
   clear hso hb hor hk hI
   go_wp2_with fail
   refine HSO.out.mono ?_
   rintro e w2 ⟨rfl,ho2,hg2,hin2⟩
   have HF:Hid (SaidPost w (saidF ss kind text ch) (.returned vg) w2):=⟨vg,rfl,by rw [← HV.out];exact ho2.mono (by omega),HB.out.grown hg2 HB.out.size HVG.out⟩
   clear ho2 hg2 hin2 HSO
   go_wp2_with fail
   go_ret
   exact HF.out
open Go.RowKit
theorem lift_below {w:World} {p:Addr} {v:Value} (h:w.cell? p = some v) {W:World} (hb:Below w.heap.size w W):W.cell? p = some v:=lift_cell h W hb
theorem teErr_at {ts:List TermD} {i:Nat} (h:i < ts.length):teErr ts i = if isKey ts[i].region = false then 5 else if chB ts[i].ch = false then 4 else if ts[i].free = true ∧ (ts[i].days ≠ 0 ∨ ts[i].wait ≠ 0) then 3
  else if ¬ (0 ≤ ts[i].days ∧ ts[i].days ≤ 2000 ∧ 0 ≤ ts[i].wait ∧ ts[i].wait ≤ 100000) then 1
  else if 0 < i ∧ 0 ≤ teCmp (ts.getD (i - 1) zeroTe) ts[i] then 7 else 0:=by
 unfold teErr
 rw [List.getElem?_eq_getElem h]
set_option maxHeartbeats 4000000 in
set_option maxRecDepth 100000 in
theorem checkTerms_any (H:Frz) (A:Option Addr) (cap:Nat) (ts:List TermD) (w:World) (hH:H.In w) (hR:Rw H A 5 fTe ts) (hl:ts.length ≤ 1000000) (hsz:∀ t ∈ ts,t.region.size ≤ 1000000) :
  Calls Tryz.prog 74 #[.slice A ts.length cap] w fun e w' => e = .returned (.int .i64 (tesErr ts)) ∧ Below w.heap.size w w':=by
 have HR:=Lib.hid hR
 have HH:=Lib.hid hH
 have HS:=Lib.hid hsz
 clear hR hH hsz
 by_cases hlong:160 < ts.length
 ·have h1:decide ((160:Int) < ts.length) = true:=by simp;omega
  have hv:Hid (tesErr ts = 2):=by show _ = _;unfold tesErr;rw [if_pos hlong]
  clear hlong
  go_enter Tryz.func74,Tryz.ntmps74
  go_wp2_with fail
  go_ret
  exact ⟨ret_int hv.out.symm,Below.refl _ _⟩
 ·have h1:decide ((160:Int) < ts.length) = false:=by simp;omega
  have HV:Hid (tesErr ts = fstErr (teErr ts) ts.length):=by show _ = _;unfold tesErr;rw [if_neg hlong]
  clear hlong
  go_enter Tryz.func74,Tryz.ntmps74
  go_wp2_with fail
  go_loopw [3,10] (fun _ t wr => ∃ i:Nat,i ≤ ts.length ∧ t = .int .i64 i ∧ Hid (fstErr (teErr ts) i = 0) ∧ Hid (Below w.heap.size w wr)) (fun _ t _ => ts.length - (intOf t).toNat)
  case atStart => exact ⟨0,by omega,rfl,rfl,Below.refl _ _⟩
  case round =>
   obtain ⟨i,hi,rfl,h0,hb⟩:=hrel
   by_cases hlt:i < ts.length
   ·have hin:=HH.out.below hb.out
    obtain ⟨b,off,hA,hbl,hc⟩:=HR.out.at_ hin hlt (by omega)
    have hprev:Hid (∀ p,i = p + 1 → ∀ W',Below wr.heap.size wr W' → ∀ j,j < 5 → W'.cell? ⟨b,off + p * 5 + j,none⟩ = some (fTe (ts.getD (i - 1) zeroTe) j)):=by
     rintro p rfl W' hW' j hj
     have hp:p < ts.length:=by omega
     obtain ⟨b',off',hA',hbl',hc'⟩:=HR.out.at_ hin hp (by omega)
     rw [hA] at hA'
     simp only [Option.some.injEq,Addr.mk.injEq] at hA'
     obtain ⟨rfl,rfl,_⟩:=hA'
     rw [Nat.add_sub_cancel,List.getD_eq_getElem?_getD,List.getElem?_eq_getElem hp,Option.getD_some]
     exact lift_below (hc' j hj) hW'
    subst hA
    have c0:wr.cell? ⟨b,off + i * 5,none⟩ = some (.string ts[i].region):=hc 0 (by omega)
    have c1:wr.cell? ⟨b,off + i * 5 + 1,none⟩ = some (.int .i64 ts[i].ch):=hc 1 (by omega)
    have c2:wr.cell? ⟨b,off + i * 5 + 2,none⟩ = some (.bool ts[i].free):=hc 2 (by omega)
    have c3:wr.cell? ⟨b,off + i * 5 + 3,none⟩ = some (.int .i64 ts[i].days):=hc 3 (by omega)
    have c4:wr.cell? ⟨b,off + i * 5 + 4,none⟩ = some (.int .i64 ts[i].wait):=hc 4 (by omega)
    have HAT:=Lib.hid (teErr_at hlt)
    have HBAD:Hid (∀ n,teErr ts i = n → n ≠ 0 → tesErr ts = n):=fun n h1 h2 => HV.out.trans ((fstErr_bad hlt h0.out (by rw [h1];exact h2)).trans h1)
    have HNX:Hid (teErr ts i = 0 → fstErr (teErr ts) (i + 1) = 0):=fun h1 => fstErr_next h0.out h1
    have hks:=HS.out _ (List.getElem_mem hlt)
    clear hc
    generalize ts.getD (i - 1) zeroTe = pt at *
    generalize ts[i] = d at *
    have z0:(wr.alloc (.cells #[.string d.region,.int .i64 d.ch,.bool d.free,.int .i64 d.days,.int .i64 d.wait] 68)).cell? ⟨wr.heap.size,0,none⟩ = some (.string d.region):=newc 0 rfl
    have z1:(wr.alloc (.cells #[.string d.region,.int .i64 d.ch,.bool d.free,.int .i64 d.days,.int .i64 d.wait] 68)).cell? ⟨wr.heap.size,1,none⟩ = some (.int .i64 d.ch):=newc 1 rfl
    have z2:(wr.alloc (.cells #[.string d.region,.int .i64 d.ch,.bool d.free,.int .i64 d.days,.int .i64 d.wait] 68)).cell? ⟨wr.heap.size,2,none⟩ = some (.bool d.free):=newc 2 rfl
    have z3:(wr.alloc (.cells #[.string d.region,.int .i64 d.ch,.bool d.free,.int .i64 d.days,.int .i64 d.wait] 68)).cell? ⟨wr.heap.size,3,none⟩ = some (.int .i64 d.days):=newc 3 rfl
    have z4:(wr.alloc (.cells #[.string d.region,.int .i64 d.ch,.bool d.free,.int .i64 d.days,.int .i64 d.wait] 68)).cell? ⟨wr.heap.size,4,none⟩ = some (.int .i64 d.wait):=newc 4 rfl
    have HBN:=Lib.hid (new1 (w:=wr) (.cells #[.string d.region,.int .i64 d.ch,.bool d.free,.int .i64 d.days,.int .i64 d.wait] 68))
    go_upto_region 6 with (fail)
    clear c0 c1 c2 c3 c4
    have hwz:wr.heap.size < (wr.alloc (.cells #[.string d.region,.int .i64 d.ch,.bool d.free,.int .i64 d.days,.int .i64 d.wait] 68)).heap.size:=by simp
    generalize wr.alloc (.cells #[.string d.region,.int .i64 d.ch,.bool d.free,.int .i64 d.days,.int .i64 d.wait] 68) = W1 at *
    have HB1:=Lib.hid (hb.out.trans (HBN.out.mono hb.out.size))
    have HBN2:=Lib.hid HBN.out
    clear hb h0 HBN hin
    go_wp2_with fail
    refine (isKey_any d.region _ (by omega)).mono ?_
    rintro e w' ⟨rfl,rfl⟩
    generalize isKey d.region = k1 at HAT
    cases k1 with
    | false =>
     have hv:=Lib.hid (HBAD.out 5 (HAT.out.trans (if_pos rfl)) (by omega))
     go_wp2_with fail
     go_ret
     exact ⟨ret_int hv.out.symm,HB1.out⟩
    | true =>
     have HA1:=Lib.hid (HAT.out.trans (if_neg (by simp)))
     clear HAT
     go_wp2_with fail
     refine (isChannel_any d.ch _).mono ?_
     rintro e w' ⟨rfl,rfl⟩
     generalize chB d.ch = k2 at HA1
     cases k2 with
     | false =>
      have hv:=Lib.hid (HBAD.out 4 (HA1.out.trans (if_pos rfl)) (by omega))
      go_wp2_with fail
      go_ret
      exact ⟨ret_int hv.out.symm,HB1.out⟩
     | true =>
      have HA2:=Lib.hid (HA1.out.trans (if_neg (by simp)))
      clear HA1
      by_cases h3:d.free = true ∧ (d.days ≠ 0 ∨ d.wait ≠ 0)
      ·have hv:=Lib.hid (HBAD.out 3 (HA2.out.trans (if_pos h3)) (by omega))
       obtain ⟨h3,h4⟩:=h3
       rw [h3] at z2
       have hE:(d.days != 0) = true ∨ ((d.days != 0) = false ∧ (d.wait != 0) = true):=by
        by_cases e:d.days = 0
        ·right
         refine ⟨by simpa using e,?_⟩
         rcases h4 with h4 | h4
         ·exact absurd e h4
         ·simpa using h4
        ·left;simpa using e
       clear h3 h4
       rcases hE with e1 | ⟨e1,e2⟩
       all_goals
        go_wp2_with fail
        go_ret
        exact ⟨ret_int hv.out.symm,HB1.out⟩
      ·have HA3:=Lib.hid (HA2.out.trans (if_neg h3))
       have hE:d.free = false ∨ (d.free = true ∧ (d.days != 0) = false ∧ (d.wait != 0) = false):=by
        cases hf:d.free with
        | false => left;rfl
        | true =>
         right
         have e1:d.days = 0:=Classical.byContradiction fun c => h3 ⟨hf,Or.inl c⟩
         have e2:d.wait = 0:=Classical.byContradiction fun c => h3 ⟨hf,Or.inr c⟩
         exact ⟨rfl,by simpa using e1,by simpa using e2⟩
       clear h3 HA2
       by_cases h4:0 ≤ d.days ∧ d.days ≤ 2000 ∧ 0 ≤ d.wait ∧ d.wait ≤ 100000
       ·have HA4:=Lib.hid (HA3.out.trans (if_neg (by simpa using h4)))
        have q1:(decide ((0:Int) ≤ d.days) && decide (d.days ≤ 2000)) = true:=by simp;omega
        have q2:(decide ((0:Int) ≤ d.wait) && decide (d.wait ≤ 100000)) = true:=by simp;omega
        have Q1:=Lib.hid q1
        have Q2:=Lib.hid q2
        clear h4 HA3 q1 q2
        rcases hE with e1 | ⟨e1,e2,e3⟩
        all_goals
         rw [e1] at z2
         have HE1:=Lib.hid e1
         clear e1
         go_wp2_with fail
         refine (cwithin_any _ _ _ _).mono ?_
         rintro e w' ⟨rfl,rfl⟩
         rw [Q1.out]
         go_wp2_with fail
         refine (cwithin_any _ _ _ _).mono ?_
         rintro e w' ⟨rfl,rfl⟩
         rw [Q2.out]
         rw [← HE1.out] at z2
         have J0:=lift_cell z0
         have J1:=lift_cell z1
         have J2:=lift_cell z2
         have J3:=lift_cell z3
         have J4:=lift_cell z4
         have HEK:=Lib.hid HE1.out
         clear z0 z1 z2 z3 z4 HE1
         try clear e2 e3
         rcases Nat.eq_zero_or_pos i with h0 | hpos
         ·have d2:decide ((0:Int) < (i:Int)) = false:=by simp;omega
          have hok:=Lib.hid (HNX.out (HA4.out.trans (if_neg (by omega))))
          clear h0
          go_upto_region 14 with (fail)
          (refine wp_region_det 12 63 (fun W => Below (W1).heap.size (W1) W) (by kernel_rfl) (by kernel_rfl) (by rfl) (Below.refl _ _).drew ?_;simp only [List.take_succ_cons,List.take_zero,List.drop_succ_cons,List.drop_zero])
          iterate 1 (refine detSeq_op rfl ?_ (fun W hW => ?_) ?_;rotate_left;(focus simp only [OpV];go_simp;first | exact rfl | exact ⟨rfl,hW⟩))
          (refine detSeq_op rfl (.bool false) (fun W hW => ?_) ?_;focus (simp only [OpV];go_simp;try (first | exact rfl | exact hW | (have h9:=d2;simp at h9;omega))))
          iterate 1 (refine detSeq_op rfl ?_ (fun W hW => ?_) ?_;rotate_left;(focus simp only [OpV];go_simp;first | exact rfl | exact ⟨rfl,hW⟩))
          iterate 8 (refine detSeq_no (by kernel_rfl) ?_)
          iterate 1 (refine detSeq_op rfl ?_ (fun W hW => ?_) ?_;rotate_left;(focus simp only [OpV];go_simp;first | exact rfl | exact ⟨rfl,hW⟩))
          refine detSeq_nil (fun W3 hW3 => ?_)
          have HB3:=Lib.hid (HB1.out.trans (hW3.mono HB1.out.size))
          clear J0 J1 J2 J3 J4 hW3
          go_wp2_with fail
          go_roundw
          case rel => exact ⟨i + 1,by omega,by go_num,hok,HB3⟩
          case measure => simp [intOf];omega
         ·obtain ⟨p,hp⟩:∃ p,i = p + 1:=⟨i - 1,by omega⟩
          have d2:decide ((0:Int) < (i:Int)) = true:=by simp;omega
          have a1:IntKind.i64.wrap ((i:Int) - 1) = (p:Int):=by rw [show (i:Int) - 1 = p from by omega];exact IntWalk.i64_in _ (by omega)
          have a6:IntKind.i64.wrap (p:Int) = (p:Int):=IntWalk.i64_in _ (by omega)
          have a2:(i:Int) - 1 = (p:Int):=by omega
          have a3:(p:Int) < ts.length:=by omega
          have a4:(0:Int) ≤ (p:Int):=by omega
          have a5:p < ts.length:=by omega
          have K0:∀ W,Below W1.heap.size W1 W → W.cell? ⟨b,off + p * 5,none⟩ = some (.string pt.region):=fun W hW => hprev.out p hp W (HBN2.out.trans (hW.mono HBN2.out.size)) 0 (by omega)
          have K1:∀ W,Below W1.heap.size W1 W → W.cell? ⟨b,off + p * 5 + 1,none⟩ = some (.int .i64 pt.ch):=fun W hW => hprev.out p hp W (HBN2.out.trans (hW.mono HBN2.out.size)) 1 (by omega)
          have K2:∀ W,Below W1.heap.size W1 W → W.cell? ⟨b,off + p * 5 + 2,none⟩ = some (.bool pt.free):=fun W hW => hprev.out p hp W (HBN2.out.trans (hW.mono HBN2.out.size)) 2 (by omega)
          have K3:∀ W,Below W1.heap.size W1 W → W.cell? ⟨b,off + p * 5 + 3,none⟩ = some (.int .i64 pt.days):=fun W hW => hprev.out p hp W (HBN2.out.trans (hW.mono HBN2.out.size)) 3 (by omega)
          have K4:∀ W,Below W1.heap.size W1 W → W.cell? ⟨b,off + p * 5 + 4,none⟩ = some (.int .i64 pt.wait):=fun W hW => hprev.out p hp W (HBN2.out.trans (hW.mono HBN2.out.size)) 4 (by omega)
          have HPOS:Hid (0 < i):=hpos
          clear hp hpos
          go_upto_region 14 with (fail)
          (refine wp_region_det 12 63 (fun W => Below (W1).heap.size (W1) W) (by kernel_rfl) (by kernel_rfl) (by rfl) (Below.refl _ _).drew ?_;simp only [List.take_succ_cons,List.take_zero,List.drop_succ_cons,List.drop_zero])
          iterate 1 (refine detSeq_op rfl ?_ (fun W hW => ?_) ?_;rotate_left;(focus simp only [OpV];go_simp;first | exact rfl | exact ⟨rfl,hW⟩))
          (refine detSeq_op rfl (.bool true) (fun W hW => ?_) ?_;focus (simp only [OpV];go_simp;try (first | exact rfl | exact hW | (have h9:=d2;simp at h9;omega))))
          iterate 1 (refine detSeq_op rfl ?_ (fun W hW => ?_) ?_;rotate_left;(focus simp only [OpV];go_simp;first | exact rfl | exact ⟨rfl,hW⟩))
          iterate 2 (refine detSeq_yes (by kernel_rfl) ?_ (fun W hW => ?_) ?_;rotate_left;(focus simp only [OpV];go_simp;first | exact rfl | exact ⟨rfl,hW⟩))
          (refine detSeq_yes (by kernel_rfl) (.int .i64 (p:Int)) (fun W hW => ?_) ?_;focus (simp only [OpV];go_simp;try (first | exact rfl | exact hW | omega)))
          iterate 3 (refine detSeq_yes (by kernel_rfl) ?_ (fun W hW => ?_) ?_;rotate_left;(focus simp only [OpV];go_simp;first | exact rfl | exact ⟨rfl,hW⟩))
          (refine detSeq_yes (by kernel_rfl) ?_ (fun W hW => ?_) ?_;rotate_left;focus (simp only [OpV];go_simp;refine (termOrder_any pt d W).mono ?_;rintro e w' ⟨rfl,hb⟩;refine ⟨_,rfl,?_,det_back hW hb⟩;exact rfl))
          iterate 1 (refine detSeq_yes (by kernel_rfl) ?_ (fun W hW => ?_) ?_;rotate_left;(focus simp only [OpV];go_simp;first | exact rfl | exact ⟨rfl,hW⟩))
          iterate 1 (refine detSeq_op rfl ?_ (fun W hW => ?_) ?_;rotate_left;(focus simp only [OpV];go_simp;first | exact rfl | exact ⟨rfl,hW⟩))
          refine detSeq_nil (fun W3 hW3 => ?_)
          have HB3:=Lib.hid (HB1.out.trans (hW3.mono HB1.out.size))
          clear K0 K1 K2 K3 K4 J0 J1 J2 J3 J4 hW3
          generalize teCmp pt d = tc at HA4 ⊢
          by_cases h7:0 ≤ tc
          ·have h7':decide (0 ≤ tc) = true:=by simpa using h7
           have hv:=Lib.hid (HBAD.out 7 (HA4.out.trans (if_pos ⟨HPOS.out,h7⟩)) (by omega))
           clear h7
           go_wp2_with fail
           go_ret
           exact ⟨ret_int hv.out.symm,HB3.out⟩
          ·have h7':decide (0 ≤ tc) = false:=by simpa using h7
           have hok:=Lib.hid (HNX.out (HA4.out.trans (if_neg (fun c => h7 c.2))))
           clear h7
           go_wp2_with fail
           go_roundw
           case rel => exact ⟨i + 1,by omega,by go_num,hok,HB3⟩
           case measure => simp [intOf];omega
       ·have hv:=Lib.hid (HBAD.out 1 (HA3.out.trans (if_pos h4)) (by omega))
        by_cases h5:0 ≤ d.days ∧ d.days ≤ 2000
        ·have q1:(decide ((0:Int) ≤ d.days) && decide (d.days ≤ 2000)) = true:=by simp;omega
         have q2:(decide ((0:Int) ≤ d.wait) && decide (d.wait ≤ 100000)) = false:=by simp;omega
         have Q1:=Lib.hid q1
         have Q2:=Lib.hid q2
         clear h4 h5 q1 q2
         rcases hE with e1 | ⟨e1,e2,e3⟩
         all_goals
          rw [e1] at z2
          clear e1
          go_wp2_with fail
          refine (cwithin_any _ _ _ _).mono ?_
          rintro e w' ⟨rfl,rfl⟩
          rw [Q1.out]
          go_wp2_with fail
          refine (cwithin_any _ _ _ _).mono ?_
          rintro e w' ⟨rfl,rfl⟩
          rw [Q2.out]
          go_wp2_with fail
          go_ret
          exact ⟨ret_int hv.out.symm,HB1.out⟩
        ·have q1:(decide ((0:Int) ≤ d.days) && decide (d.days ≤ 2000)) = false:=by simp;omega
         have Q1:=Lib.hid q1
         clear h4 h5 q1
         rcases hE with e1 | ⟨e1,e2,e3⟩
         all_goals
          rw [e1] at z2
          clear e1
          go_wp2_with fail
          refine (cwithin_any _ _ _ _).mono ?_
          rintro e w' ⟨rfl,rfl⟩
          rw [Q1.out]
          go_wp2_with fail
          go_ret
          exact ⟨ret_int hv.out.symm,HB1.out⟩
   ·have hie:i = ts.length:=by omega
    subst hie
    have hv:=Lib.hid (HV.out.trans h0.out)
    go_wp2_with fail
    go_ret
    exact ⟨ret_int hv.out.symm,hb.out⟩
open Go.RowKit
def leB (a b:ByteArray):Bool:=Op.bytesLess a.toList b.toList || a.toList == b.toList
theorem leB_iff (a b:ByteArray):leB a b = true ↔ 0 ≤ cmpS b a:=by
 have h1:=cmpS_swap a b
 unfold leB
 rw [Bool.or_eq_true,← cmpS_lt,beq_iff_eq]
 constructor
 ·rintro (h | h)
  ·omega
  ·have:a = b:=toList_inj h
   subst this
   rw [cmpS_self];exact Int.le_refl _
 ·intro h
  rcases Int.lt_or_eq_of_le (show cmpS a b ≤ 0 by omega) with h2 | h2
  ·exact Or.inl h2
  ·exact Or.inr (by rw [cmpS_zero h2])
open Go.RowKit
theorem puErr_at {ps:List PurD} {i:Nat} (h:i < ps.length):puErr ps i = if isKey ps[i].name = false then 5 else if 0 < i ∧ 0 ≤ cmpS (ps.getD (i - 1) ps[i]).name ps[i].name then 7 else tesErr ps[i].terms:=by
 unfold puErr
 rw [List.getElem?_eq_getElem h]
set_option maxHeartbeats 4000000 in
set_option maxRecDepth 100000 in
theorem checkPolicy_any (H:Frz) (A:Option Addr) (cap:Nat) (ps:List PurD) (w:World) (hH:H.In w) (hP:PolIn H A ps) (hl:ps.length ≤ 1000000) :
  Calls Tryz.prog 43 #[.slice A ps.length cap] w fun e w' => e = .returned (.int .i64 (polErr ps)) ∧ Below w.heap.size w w':=by
 have HR:=Lib.hid hP.row
 have HH:=Lib.hid hH
 have HS:=Lib.hid hP.size
 have HT:=Lib.hid (fun p hp W (hW:H.In W) => checkTerms_any H p.adr p.cap p.terms W hW (hP.terms p hp) (by have:=(hP.size p hp).2.1;omega) (hP.size p hp).2.2.2)
 clear hP hH
 by_cases hz:ps.length = 0
 ·have h1:((ps.length:Int) == 0) = true:=by simp;exact List.length_eq_zero_iff.1 hz
  have hv:Hid (polErr ps = 3):=by show _ = _;unfold polErr;rw [if_pos hz]
  clear hz
  go_enter Tryz.func43,Tryz.ntmps43
  go_wp2_with fail
  go_ret
  exact ⟨ret_int hv.out.symm,Below.refl _ _⟩
 ·have h1:((ps.length:Int) == 0) = false:=by simp;intro c;exact hz (by rw [c];rfl)
  by_cases hlong:30 < ps.length
  ·have h2:decide ((30:Int) < ps.length) = true:=by simp;omega
   have hv:Hid (polErr ps = 2):=by show _ = _;unfold polErr;rw [if_neg hz,if_pos hlong]
   clear hlong hz
   go_enter Tryz.func43,Tryz.ntmps43
   go_wp2_with fail
   go_ret
   exact ⟨ret_int hv.out.symm,Below.refl _ _⟩
  ·have h2:decide ((30:Int) < ps.length) = false:=by simp;omega
   have HV:Hid (polErr ps = fstErr (puErr ps) ps.length):=by show _ = _;unfold polErr;rw [if_neg hz,if_neg hlong]
   clear hlong hz
   go_enter Tryz.func43,Tryz.ntmps43
   go_wp2_with fail
   go_loopw [3,16] (fun _ t wr => ∃ i:Nat,i ≤ ps.length ∧ t = .int .i64 i ∧ Hid (fstErr (puErr ps) i = 0) ∧ Hid (Below w.heap.size w wr)) (fun _ t _ => ps.length - (intOf t).toNat)
   case atStart => exact ⟨0,by omega,rfl,rfl,Below.refl _ _⟩
   case round =>
    obtain ⟨i,hi,rfl,h0,hb⟩:=hrel
    by_cases hlt:i < ps.length
    ·have hin:=HH.out.below hb.out
     obtain ⟨b,off,hA,hbl,hc⟩:=HR.out.at_ hin hlt (by omega)
     have hprev:Hid (∀ p,i = p + 1 → ∀ W',Below wr.heap.size wr W' → W'.cell? ⟨b,off + p * 2,none⟩ = some (.string (ps.getD (i - 1) ps[i]).name)):=by
      rintro p rfl W' hW'
      have hp:p < ps.length:=by omega
      obtain ⟨b',off',hA',hbl',hc'⟩:=HR.out.at_ hin hp (by omega)
      rw [hA] at hA'
      simp only [Option.some.injEq,Addr.mk.injEq] at hA'
      obtain ⟨rfl,rfl,_⟩:=hA'
      rw [Nat.add_sub_cancel,List.getD_eq_getElem?_getD,List.getElem?_eq_getElem hp,Option.getD_some]
      exact lift_below (hc' 0 (by omega)) hW'
     subst hA
     have c0:wr.cell? ⟨b,off + i * 2,none⟩ = some (.string ps[i].name):=hc 0 (by omega)
     have c1:wr.cell? ⟨b,off + i * 2 + 1,none⟩ = some (.slice ps[i].adr ps[i].terms.length ps[i].cap):=hc 1 (by omega)
     have HAT:=Lib.hid (puErr_at hlt)
     have HBAD:Hid (∀ n,puErr ps i = n → n ≠ 0 → polErr ps = n):=fun n h1 h2 => HV.out.trans ((fstErr_bad hlt h0.out (by rw [h1];exact h2)).trans h1)
     have HNX:Hid (puErr ps i = 0 → fstErr (puErr ps) (i + 1) = 0):=fun h1 => fstErr_next h0.out h1
     have hks:=HS.out _ (List.getElem_mem hlt)
     have HTD:=Lib.hid (HT.out _ (List.getElem_mem hlt))
     clear hc
     generalize (ps.getD (i - 1) ps[i]).name = pn at *
     generalize ps[i] = d at *
     have z0:(wr.alloc (.cells #[.string d.name,.slice d.adr d.terms.length d.cap] 66)).cell? ⟨wr.heap.size,0,none⟩ = some (.string d.name):=newc 0 rfl
     have z1:(wr.alloc (.cells #[.string d.name,.slice d.adr d.terms.length d.cap] 66)).cell? ⟨wr.heap.size,1,none⟩ = some (.slice d.adr d.terms.length d.cap):=newc 1 rfl
     have HBN:=Lib.hid (new1 (w:=wr) (.cells #[.string d.name,.slice d.adr d.terms.length d.cap] 66))
     go_upto_region 8 with (fail)
     clear c0 c1
     generalize wr.alloc (.cells #[.string d.name,.slice d.adr d.terms.length d.cap] 66) = W1 at *
     have HB1:=Lib.hid (hb.out.trans (HBN.out.mono hb.out.size))
     have HBN2:=Lib.hid HBN.out
     have HIN1:=Lib.hid (hin.below HBN.out)
     clear hb h0 HBN hin
     go_wp2_with fail
     refine (isKey_any d.name _ (by omega)).mono ?_
     rintro e w' ⟨rfl,rfl⟩
     generalize isKey d.name = k1 at HAT
     cases k1 with
     | false =>
      have hv:=Lib.hid (HBAD.out 5 (HAT.out.trans (if_pos rfl)) (by omega))
      go_wp2_with fail
      go_ret
      exact ⟨ret_int hv.out.symm,HB1.out⟩
     | true =>
      have HA1:=Lib.hid (HAT.out.trans (if_neg (by simp)))
      clear HAT
      have J0:=lift_cell z0
      have J1:=lift_cell z1
      clear z0 z1
      go_wp2_with fail
      rcases Nat.eq_zero_or_pos i with h0 | hpos
      ·have d2:decide ((0:Int) < (i:Int)) = false:=by simp;omega
       have HA2:=Lib.hid (HA1.out.trans (if_neg (by omega)))
       clear h0
       (refine wp_region_det 13 47 (fun W => Below (W1).heap.size (W1) W) (by kernel_rfl) (by kernel_rfl) (by rfl) (Below.refl _ _).drew ?_;simp only [List.take_succ_cons,List.take_zero,List.drop_succ_cons,List.drop_zero])
       iterate 1 (refine detSeq_op rfl ?_ (fun W hW => ?_) ?_;rotate_left;(focus simp only [OpV];go_simp;first | exact rfl | exact ⟨rfl,hW⟩))
       (refine detSeq_op rfl (.bool false) (fun W hW => ?_) ?_;focus (simp only [OpV];go_simp;try (first | exact rfl | exact hW | (have h9:=d2;simp at h9;omega))))
       iterate 1 (refine detSeq_op rfl ?_ (fun W hW => ?_) ?_;rotate_left;(focus simp only [OpV];go_simp;first | exact rfl | exact ⟨rfl,hW⟩))
       iterate 9 (refine detSeq_no (by kernel_rfl) ?_)
       iterate 1 (refine detSeq_op rfl ?_ (fun W hW => ?_) ?_;rotate_left;(focus simp only [OpV];go_simp;first | exact rfl | exact ⟨rfl,hW⟩))
       refine detSeq_nil (fun W3 hW3 => ?_)
       have HB3:=Lib.hid (HB1.out.trans (hW3.mono HB1.out.size))
       have HIN3:=Lib.hid (HIN1.out.below hW3)
       have x0:=J0 _ hW3
       have x1:=J1 _ hW3
       clear J0 J1 hW3
       go_wp2_with fail
       refine (HTD.out _ HIN3.out).mono ?_
       rintro e w4 ⟨rfl,hb4⟩
       have HB4:=Lib.hid (HB3.out.trans (hb4.mono HB3.out.size))
       generalize tesErr d.terms = te at HA2 ⊢
       clear hb4 x0 x1
       by_cases ht:te = 0
       ·have hok:=Lib.hid (HNX.out (HA2.out.trans ht))
        have k0:(te != 0) = false:=by simpa using ht
        clear ht
        go_wp2_with fail
        go_roundw
        case rel => exact ⟨i + 1,by omega,by go_num,hok,HB4⟩
        case measure => simp [intOf];omega
       ·have hv:=Lib.hid (HBAD.out te HA2.out ht)
        have k0:(te != 0) = true:=by simpa using ht
        clear ht
        go_wp2_with fail
        go_ret
        exact ⟨ret_int hv.out.symm,HB4.out⟩
      ·obtain ⟨p,hp⟩:∃ p,i = p + 1:=⟨i - 1,by omega⟩
       have d2:decide ((0:Int) < (i:Int)) = true:=by simp;omega
       have a1:IntKind.i64.wrap ((i:Int) - 1) = (p:Int):=by rw [show (i:Int) - 1 = p from by omega];exact IntWalk.i64_in _ (by omega)
       have a6:IntKind.i64.wrap (p:Int) = (p:Int):=IntWalk.i64_in _ (by omega)
       have a2:(i:Int) - 1 = (p:Int):=by omega
       have a3:(p:Int) < ps.length:=by omega
       have a4:(0:Int) ≤ (p:Int):=by omega
       have a5:p < ps.length:=by omega
       have K0:∀ W,Below W1.heap.size W1 W → W.cell? ⟨b,off + p * 2,none⟩ = some (.string pn):=fun W hW => hprev.out p hp W (HBN2.out.trans (hW.mono HBN2.out.size))
       have HPOS:Hid (0 < i):=hpos
       clear hp hpos
       (refine wp_region_det 13 47 (fun W => Below (W1).heap.size (W1) W) (by kernel_rfl) (by kernel_rfl) (by rfl) (Below.refl _ _).drew ?_;simp only [List.take_succ_cons,List.take_zero,List.drop_succ_cons,List.drop_zero])
       iterate 1 (refine detSeq_op rfl ?_ (fun W hW => ?_) ?_;rotate_left;(focus simp only [OpV];go_simp;first | exact rfl | exact ⟨rfl,hW⟩))
       (refine detSeq_op rfl (.bool true) (fun W hW => ?_) ?_;focus (simp only [OpV];go_simp;try (first | exact rfl | exact hW | (have h9:=d2;simp at h9;omega))))
       iterate 1 (refine detSeq_op rfl ?_ (fun W hW => ?_) ?_;rotate_left;(focus simp only [OpV];go_simp;first | exact rfl | exact ⟨rfl,hW⟩))
       iterate 4 (refine detSeq_yes (by kernel_rfl) ?_ (fun W hW => ?_) ?_;rotate_left;(focus simp only [OpV];go_simp;first | exact rfl | exact ⟨rfl,hW⟩))
       (refine detSeq_yes (by kernel_rfl) (.int .i64 (p:Int)) (fun W hW => ?_) ?_;focus (simp only [OpV];go_simp;try (first | exact rfl | exact hW | omega)))
       iterate 3 (refine detSeq_yes (by kernel_rfl) ?_ (fun W hW => ?_) ?_;rotate_left;(focus simp only [OpV];go_simp;first | exact rfl | exact ⟨rfl,hW⟩))
       (refine detSeq_yes (by kernel_rfl) (.bool (leB d.name pn)) (fun W hW => ?_) ?_;focus (simp only [OpV];go_simp;try (first | exact rfl | exact hW | exact ⟨rfl,hW⟩)))
       iterate 1 (refine detSeq_op rfl ?_ (fun W hW => ?_) ?_;rotate_left;(focus simp only [OpV];go_simp;first | exact rfl | exact ⟨rfl,hW⟩))
       refine detSeq_nil (fun W3 hW3 => ?_)
       have HB3:=Lib.hid (HB1.out.trans (hW3.mono HB1.out.size))
       have HIN3:=Lib.hid (HIN1.out.below hW3)
       have x0:=J0 _ hW3
       have x1:=J1 _ hW3
       clear J0 J1 K0 hW3
       have HLE:=Lib.hid (leB_iff d.name pn)
       generalize leB d.name pn = le at HLE ⊢
       cases le with
       | true =>
        have hv:=Lib.hid (HBAD.out 7 (HA1.out.trans (if_pos ⟨HPOS.out,HLE.out.1 rfl⟩)) (by omega))
        go_wp2_with fail
        go_ret
        exact ⟨ret_int hv.out.symm,HB3.out⟩
       | false =>
        have HA2:=Lib.hid (HA1.out.trans (if_neg (fun c => by have:=HLE.out.2 c.2;cases this)))
        go_wp2_with fail
        refine (HTD.out _ HIN3.out).mono ?_
        rintro e w4 ⟨rfl,hb4⟩
        have HB4:=Lib.hid (HB3.out.trans (hb4.mono HB3.out.size))
        generalize tesErr d.terms = te at HA2 ⊢
        clear hb4 x0 x1
        by_cases ht:te = 0
        ·have hok:=Lib.hid (HNX.out (HA2.out.trans ht))
         have k0:(te != 0) = false:=by simpa using ht
         clear ht
         go_wp2_with fail
         go_roundw
         case rel => exact ⟨i + 1,by omega,by go_num,hok,HB4⟩
         case measure => simp [intOf];omega
        ·have hv:=Lib.hid (HBAD.out te HA2.out ht)
         have k0:(te != 0) = true:=by simpa using ht
         clear ht
         go_wp2_with fail
         go_ret
         exact ⟨ret_int hv.out.symm,HB4.out⟩
    ·have hie:i = ps.length:=by omega
     subst hie
     have hv:=Lib.hid (HV.out.trans h0.out)
     go_wp2_with fail
     go_ret
     exact ⟨ret_int hv.out.symm,hb.out⟩
end Go.Proofs.YtcncifmanodabaaGreatDoor
