/- Texts of this claim, put together: ConsA2, ConsA3, ConsA4. -/
import Derived.Test.YtcncifmanodabaaGreatDoorGAF
import Derived.Test.YtcncifmanodabaaGreatDoorShelf
namespace Go.Proofs.YtcncifmanodabaaGreatDoor
set_option linter.unusedVariables false
open Go.RowKit
def stV (o:Option StD):Value:=match o with | none => .agg #[.int .i64 0,.int .i64 0,.int .i64 0,.string ⟨#[]⟩,.string ⟨#[]⟩,.string ⟨#[]⟩,.int .i64 0,.int .i64 0] | some d => .agg #[.int .i64 d.no,.int .i64 d.at_,.int .i64 d.kind,.string d.text,.string d.purp,.string d.region,.int .i64 d.ch,.int .i64 d.what]
theorem find_take_none {D:Type} {p:D → Bool} {l:List D} {i:Nat} (h:i < l.length) (h0:(l.take i).find? p = none) (hp:p l[i] = false):(l.take (i + 1)).find? p = none:=by
 rw [List.take_succ_eq_append_getElem h,List.find?_append,h0]
 simp [hp]
theorem find_take_some {D:Type} {p:D → Bool} {l:List D} {i:Nat} (h:i < l.length) (h0:(l.take i).find? p = none) (hp:p l[i] = true):l.find? p = some l[i]:=by
 have e:l = l.take i ++ l.drop i:=(List.take_append_drop i l).symm
 have:l.find? p = (l.drop i).find? p:=by
  conv => lhs;rw [e]
  rw [List.find?_append,h0];rfl
 rw [this,List.drop_eq_getElem_cons h,List.find?_cons_of_pos hp]
set_option maxHeartbeats 2000000 in
set_option maxRecDepth 100000 in
theorem confirmation_any (H:Frz) (A:Option Addr) (cap:Nat) (l:List StD) (purp:ByteArray) (from_ to_:Int) (w:World) (hH:H.In w) (hR:Rw H A 8 fSt l) (hl:l.length ≤ 1000000) :
  Calls Tryz.prog 134 #[.slice A l.length cap,.string purp,.int .i64 from_,.int .i64 to_] w fun e w' => e = .returned (.tuple #[stV (coF purp from_ to_ l),.bool (coF purp from_ to_ l).isSome]) ∧ Below w.heap.size w w':=by
 have HR:=Lib.hid hR
 have HH:=Lib.hid (hH.alloc (.cells #[.int .i64 zeroSt.no,.int .i64 zeroSt.at_,.int .i64 zeroSt.kind,.string zeroSt.text,.string zeroSt.purp,.string zeroSt.region,.int .i64 zeroSt.ch,.int .i64 zeroSt.what] 53))
 have HB0:=Lib.hid (new1 (w:=w) (.cells #[.int .i64 zeroSt.no,.int .i64 zeroSt.at_,.int .i64 zeroSt.kind,.string zeroSt.text,.string zeroSt.purp,.string zeroSt.region,.int .i64 zeroSt.ch,.int .i64 zeroSt.what] 53))
 have HK0:Hid (Below (w.alloc (.cells #[.int .i64 zeroSt.no,.int .i64 zeroSt.at_,.int .i64 zeroSt.kind,.string zeroSt.text,.string zeroSt.purp,.string zeroSt.region,.int .i64 zeroSt.ch,.int .i64 zeroSt.what] 53)).heap.size (w.alloc (.cells #[.int .i64 zeroSt.no,.int .i64 zeroSt.at_,.int .i64 zeroSt.kind,.string zeroSt.text,.string zeroSt.purp,.string zeroSt.region,.int .i64 zeroSt.ch,.int .i64 zeroSt.what] 53)) (w.alloc (.cells #[.int .i64 zeroSt.no,.int .i64 zeroSt.at_,.int .i64 zeroSt.kind,.string zeroSt.text,.string zeroSt.purp,.string zeroSt.region,.int .i64 zeroSt.ch,.int .i64 zeroSt.what] 53))):=Below.refl _ _
 clear hR hH
 go_enter Tryz.func134,Tryz.ntmps134
 go_wp2_with fail
 go_loopw [14] (fun t wr => ∃ i:Nat,i ≤ l.length ∧ t = .int .i64 i ∧ Hid ((l.take i).find? (coB purp from_ to_) = none) ∧ Hid (Below (w.alloc (.cells #[.int .i64 zeroSt.no,.int .i64 zeroSt.at_,.int .i64 zeroSt.kind,.string zeroSt.text,.string zeroSt.purp,.string zeroSt.region,.int .i64 zeroSt.ch,.int .i64 zeroSt.what] 53)).heap.size (w.alloc (.cells #[.int .i64 zeroSt.no,.int .i64 zeroSt.at_,.int .i64 zeroSt.kind,.string zeroSt.text,.string zeroSt.purp,.string zeroSt.region,.int .i64 zeroSt.ch,.int .i64 zeroSt.what] 53)) wr)) (fun t _ => l.length - (intOf t).toNat)
 case atStart => exact ⟨0,by omega,rfl,rfl,HK0⟩
 case round =>
  obtain ⟨i,hi,rfl,hno,hb⟩:=hrel
  have hk:=keep2 hb.out
  have hbw:=Lib.hid (HB0.out.trans (hb.out.mono HB0.out.size))
  by_cases hlt:i < l.length
  ·obtain ⟨b,off,rfl,hbl,hc⟩:=HR.out.at_ (HH.out.below hb.out) hlt (by omega)
   have c0:wr.cell? ⟨b,off + i * 8,none⟩ = some (.int .i64 l[i].no):=hc 0 (by omega)
   have c1:wr.cell? ⟨b,off + i * 8 + 1,none⟩ = some (.int .i64 l[i].at_):=hc 1 (by omega)
   have c2:wr.cell? ⟨b,off + i * 8 + 2,none⟩ = some (.int .i64 l[i].kind):=hc 2 (by omega)
   have c3:wr.cell? ⟨b,off + i * 8 + 3,none⟩ = some (.string l[i].text):=hc 3 (by omega)
   have c4:wr.cell? ⟨b,off + i * 8 + 4,none⟩ = some (.string l[i].purp):=hc 4 (by omega)
   have c5:wr.cell? ⟨b,off + i * 8 + 5,none⟩ = some (.string l[i].region):=hc 5 (by omega)
   have c6:wr.cell? ⟨b,off + i * 8 + 6,none⟩ = some (.int .i64 l[i].ch):=hc 6 (by omega)
   have c7:wr.cell? ⟨b,off + i * 8 + 7,none⟩ = some (.int .i64 l[i].what):=hc 7 (by omega)
   have HN1:=Lib.hid (find_take_none (p:=coB purp from_ to_) hlt hno.out)
   have HS1:=Lib.hid (find_take_some (p:=coB purp from_ to_) hlt hno.out)
   clear hc
   generalize l[i] = d at *
   have z0:(wr.alloc (.cells #[.int .i64 d.no,.int .i64 d.at_,.int .i64 d.kind,.string d.text,.string d.purp,.string d.region,.int .i64 d.ch,.int .i64 d.what] 53)).cell? ⟨wr.heap.size,0,none⟩ = some (.int .i64 d.no):=newc 0 rfl
   have z1:(wr.alloc (.cells #[.int .i64 d.no,.int .i64 d.at_,.int .i64 d.kind,.string d.text,.string d.purp,.string d.region,.int .i64 d.ch,.int .i64 d.what] 53)).cell? ⟨wr.heap.size,1,none⟩ = some (.int .i64 d.at_):=newc 1 rfl
   have z2:(wr.alloc (.cells #[.int .i64 d.no,.int .i64 d.at_,.int .i64 d.kind,.string d.text,.string d.purp,.string d.region,.int .i64 d.ch,.int .i64 d.what] 53)).cell? ⟨wr.heap.size,2,none⟩ = some (.int .i64 d.kind):=newc 2 rfl
   have z3:(wr.alloc (.cells #[.int .i64 d.no,.int .i64 d.at_,.int .i64 d.kind,.string d.text,.string d.purp,.string d.region,.int .i64 d.ch,.int .i64 d.what] 53)).cell? ⟨wr.heap.size,3,none⟩ = some (.string d.text):=newc 3 rfl
   have z4:(wr.alloc (.cells #[.int .i64 d.no,.int .i64 d.at_,.int .i64 d.kind,.string d.text,.string d.purp,.string d.region,.int .i64 d.ch,.int .i64 d.what] 53)).cell? ⟨wr.heap.size,4,none⟩ = some (.string d.purp):=newc 4 rfl
   have z5:(wr.alloc (.cells #[.int .i64 d.no,.int .i64 d.at_,.int .i64 d.kind,.string d.text,.string d.purp,.string d.region,.int .i64 d.ch,.int .i64 d.what] 53)).cell? ⟨wr.heap.size,5,none⟩ = some (.string d.region):=newc 5 rfl
   have z6:(wr.alloc (.cells #[.int .i64 d.no,.int .i64 d.at_,.int .i64 d.kind,.string d.text,.string d.purp,.string d.region,.int .i64 d.ch,.int .i64 d.what] 53)).cell? ⟨wr.heap.size,6,none⟩ = some (.int .i64 d.ch):=newc 6 rfl
   have z7:(wr.alloc (.cells #[.int .i64 d.no,.int .i64 d.at_,.int .i64 d.kind,.string d.text,.string d.purp,.string d.region,.int .i64 d.ch,.int .i64 d.what] 53)).cell? ⟨wr.heap.size,7,none⟩ = some (.int .i64 d.what):=newc 7 rfl
   have HBN:=Lib.hid (new1 (w:=wr) (.cells #[.int .i64 d.no,.int .i64 d.at_,.int .i64 d.kind,.string d.text,.string d.purp,.string d.region,.int .i64 d.ch,.int .i64 d.what] 53))
   go_upto_region 4 with (fail)
   clear c0 c1 c2 c3 c4 c5 c6 c7
   have HK2:=Lib.hid ((HBN.out.block _ (lt_of_heap hk)).trans hk)
   have hne:¬ wr.heap.size = w.heap.size:=by have:=lt_of_heap hk;omega
   generalize wr.alloc (.cells #[.int .i64 d.no,.int .i64 d.at_,.int .i64 d.kind,.string d.text,.string d.purp,.string d.region,.int .i64 d.ch,.int .i64 d.what] 53) = W1 at *
   have HB1:=Lib.hid (hb.out.trans (HBN.out.mono hb.out.size))
   have HBW1:=Lib.hid (hbw.out.trans (HBN.out.mono hbw.out.size))
   clear hb HBN hno hk hbw HK0
   cases h1:(d.what == 2) with
   | false =>
    have HN:=Lib.hid (HN1.out (by simp only [coB];simp at h1;simp [h1]))
    go_wp2_with fail
    go_roundw
    case rel => exact ⟨i + 1,by omega,by go_num,HN,HB1⟩
    case measure => simp [intOf];omega
   | true =>
    cases h2:(d.purp.toList == purp.toList) with
    | false =>
     have HN:=Lib.hid (HN1.out (by simp only [coB,eqS,h2];simp))
     go_wp2_with fail
     go_roundw
     case rel => exact ⟨i + 1,by omega,by go_num,HN,HB1⟩
     case measure => simp [intOf];omega
    | true =>
     have H1:=Lib.hid (show decide (d.what = 2) = true by simpa using h1)
     have H2:=Lib.hid h2
     go_wp2_with fail
     refine (cwithin_any _ _ _ _).mono ?_
     rintro e w' ⟨rfl,rfl⟩
     generalize h3:(decide (from_ ≤ d.at_) && decide (d.at_ ≤ to_)) = q
     have H3:=Lib.hid h3
     clear h3
     cases q with
     | false =>
      have HN:=Lib.hid (HN1.out (by simp only [coB,eqS,H3.out];simp))
      go_wp2_with fail
      go_roundw
      case rel => exact ⟨i + 1,by omega,by go_num,HN,HB1⟩
      case measure => simp [intOf];omega
     | true =>
      have HS:Hid (coF purp from_ to_ l = some d):=HS1.out (by simp only [coB,eqS,H1.out,H2.out,H3.out];simp)
      have hk:=HK2.out
      have x0:W1.cell? ⟨w.heap.size,0,none⟩ = some (.int .i64 zeroSt.no):=cell_h hk 0 rfl
      have x1:W1.cell? ⟨w.heap.size,1,none⟩ = some (.int .i64 zeroSt.at_):=cell_h hk 1 rfl
      have x2:W1.cell? ⟨w.heap.size,2,none⟩ = some (.int .i64 zeroSt.kind):=cell_h hk 2 rfl
      have x3:W1.cell? ⟨w.heap.size,3,none⟩ = some (.string zeroSt.text):=cell_h hk 3 rfl
      have x4:W1.cell? ⟨w.heap.size,4,none⟩ = some (.string zeroSt.purp):=cell_h hk 4 rfl
      have x5:W1.cell? ⟨w.heap.size,5,none⟩ = some (.string zeroSt.region):=cell_h hk 5 rfl
      have x6:W1.cell? ⟨w.heap.size,6,none⟩ = some (.int .i64 zeroSt.ch):=cell_h hk 6 rfl
      have x7:W1.cell? ⟨w.heap.size,7,none⟩ = some (.int .i64 zeroSt.what):=cell_h hk 7 rfl
      have y0:=froz_h hk 0
      have y1:=froz_h hk 1
      have y2:=froz_h hk 2
      have y3:=froz_h hk 3
      have y4:=froz_h hk 4
      have y5:=froz_h hk 5
      have y6:=froz_h hk 6
      have y7:=froz_h hk 7
      have HK9:=Lib.hid (set8 hk (.int .i64 d.no) (.int .i64 d.at_) (.int .i64 d.kind) (.string d.text) (.string d.purp) (.string d.region) (.int .i64 d.ch) (.int .i64 d.what))
      have HF9:=Lib.hid (below_set8 HBW1.out (Nat.le_refl w.heap.size) (.int .i64 d.no) (.int .i64 d.at_) (.int .i64 d.kind) (.string d.text) (.string d.purp) (.string d.region) (.int .i64 d.ch) (.int .i64 d.what))
      clear hk
      go_wp2_with fail
      have u0:=cell_h HK9.out 0 (v:=.int .i64 d.no) rfl
      have u1:=cell_h HK9.out 1 (v:=.int .i64 d.at_) rfl
      have u2:=cell_h HK9.out 2 (v:=.int .i64 d.kind) rfl
      have u3:=cell_h HK9.out 3 (v:=.string d.text) rfl
      have u4:=cell_h HK9.out 4 (v:=.string d.purp) rfl
      have u5:=cell_h HK9.out 5 (v:=.string d.region) rfl
      have u6:=cell_h HK9.out 6 (v:=.int .i64 d.ch) rfl
      have u7:=cell_h HK9.out 7 (v:=.int .i64 d.what) rfl
      refine bodyPost_ret (v:=.tuple #[.agg #[.int .i64 d.no,.int .i64 d.at_,.int .i64 d.kind,.string d.text,.string d.purp,.string d.region,.int .i64 d.ch,.int .i64 d.what],.bool true]) (by simp [results,Tryz.results134,go_sem,u0,u1,u2,u3,u4,u5,u6,u7]) rfl ⟨by rw [HS.out];rfl,HF9.out⟩
  ·have HS:Hid (coF purp from_ to_ l = none):=by have:=hno.out;rwa [List.take_of_length_le (by omega)] at this
   have x0:wr.cell? ⟨w.heap.size,0,none⟩ = some (.int .i64 zeroSt.no):=cell_h hk 0 rfl
   have x1:wr.cell? ⟨w.heap.size,1,none⟩ = some (.int .i64 zeroSt.at_):=cell_h hk 1 rfl
   have x2:wr.cell? ⟨w.heap.size,2,none⟩ = some (.int .i64 zeroSt.kind):=cell_h hk 2 rfl
   have x3:wr.cell? ⟨w.heap.size,3,none⟩ = some (.string zeroSt.text):=cell_h hk 3 rfl
   have x4:wr.cell? ⟨w.heap.size,4,none⟩ = some (.string zeroSt.purp):=cell_h hk 4 rfl
   have x5:wr.cell? ⟨w.heap.size,5,none⟩ = some (.string zeroSt.region):=cell_h hk 5 rfl
   have x6:wr.cell? ⟨w.heap.size,6,none⟩ = some (.int .i64 zeroSt.ch):=cell_h hk 6 rfl
   have x7:wr.cell? ⟨w.heap.size,7,none⟩ = some (.int .i64 zeroSt.what):=cell_h hk 7 rfl
   have y0:=froz_h hk 0
   have y1:=froz_h hk 1
   have y2:=froz_h hk 2
   have y3:=froz_h hk 3
   have y4:=froz_h hk 4
   have y5:=froz_h hk 5
   have y6:=froz_h hk 6
   have y7:=froz_h hk 7
   have HK9:=Lib.hid (set8 hk (.int .i64 0) (.int .i64 0) (.int .i64 0) (.string ⟨#[]⟩) (.string ⟨#[]⟩) (.string ⟨#[]⟩) (.int .i64 0) (.int .i64 0))
   have HF9:=Lib.hid (below_set8 hbw.out (Nat.le_refl w.heap.size) (.int .i64 0) (.int .i64 0) (.int .i64 0) (.string ⟨#[]⟩) (.string ⟨#[]⟩) (.string ⟨#[]⟩) (.int .i64 0) (.int .i64 0))
   clear hk
   go_wp2_with fail
   have u0:=cell_h HK9.out 0 (v:=.int .i64 0) rfl
   have u1:=cell_h HK9.out 1 (v:=.int .i64 0) rfl
   have u2:=cell_h HK9.out 2 (v:=.int .i64 0) rfl
   have u3:=cell_h HK9.out 3 (v:=.string ⟨#[]⟩) rfl
   have u4:=cell_h HK9.out 4 (v:=.string ⟨#[]⟩) rfl
   have u5:=cell_h HK9.out 5 (v:=.string ⟨#[]⟩) rfl
   have u6:=cell_h HK9.out 6 (v:=.int .i64 0) rfl
   have u7:=cell_h HK9.out 7 (v:=.int .i64 0) rfl
   refine bodyPost_ret (v:=.tuple #[.agg #[.int .i64 0,.int .i64 0,.int .i64 0,.string ⟨#[]⟩,.string ⟨#[]⟩,.string ⟨#[]⟩,.int .i64 0,.int .i64 0],.bool false]) (by simp [results,Tryz.results134,go_sem,u0,u1,u2,u3,u4,u5,u6,u7]) rfl ⟨by rw [HS.out];rfl,HF9.out⟩
open Go.RowKit
set_option maxHeartbeats 2000000 in
set_option maxRecDepth 100000 in
theorem stateOf_any (H:Frz) (A:Option Addr) (cap:Nat) (l:List StD) (t:TermD) (g:StD) (at_:Int) (w:World) (hH:H.In w) (hR:Rw H A 8 fSt l) (hl:l.length ≤ 1000000)
  (d0:0 ≤ t.days) (d1:t.days ≤ 2000) (w0:0 ≤ t.wait) (w1:t.wait ≤ 100000) (g0:-1000000000000 ≤ g.at_) (g1:g.at_ ≤ 1000000000000) :
  Calls Tryz.prog 101 #[.slice A l.length cap,.agg #[.string t.region,.int .i64 t.ch,.bool t.free,.int .i64 t.days,.int .i64 t.wait],.agg #[.int .i64 g.no,.int .i64 g.at_,.int .i64 g.kind,.string g.text,.string g.purp,.string g.region,.int .i64 g.ch,.int .i64 g.what],.int .i64 at_] w fun e w' => e = .returned (.int .i64 (stateF l t g at_)) ∧ Below w.heap.size w w':=by
 have hb:=Lib.hid (new2 (w:=w) (.cells #[.string t.region,.int .i64 t.ch,.bool t.free,.int .i64 t.days,.int .i64 t.wait] 68) (.cells #[.int .i64 g.no,.int .i64 g.at_,.int .i64 g.kind,.string g.text,.string g.purp,.string g.region,.int .i64 g.ch,.int .i64 g.what] 53))
 have hcf:=Lib.hid (fun W hW => confirmation_any H A cap l g.purp g.at_ (g.at_ + t.wait) W hW hR hl)
 have hin:=Lib.hid ((hH.alloc (.cells #[.string t.region,.int .i64 t.ch,.bool t.free,.int .i64 t.days,.int .i64 t.wait] 68)).alloc (.cells #[.int .i64 g.no,.int .i64 g.at_,.int .i64 g.kind,.string g.text,.string g.purp,.string g.region,.int .i64 g.ch,.int .i64 g.what] 53))
 clear hH hR
 by_cases h1:t.days ≠ 0 ∧ g.at_ + t.days * 1440 ≤ at_
 ·have hv:Hid (stateF l t g at_ = 7):=by show _ = _;unfold stateF;rw [if_pos h1]
  have k1:(t.days != 0) = true:=by simpa using h1.1
  have k2:decide (g.at_ + t.days * 1440 ≤ at_) = true:=by simpa using h1.2
  obtain ⟨h2,h3⟩:=h1
  clear h2
  go_enter Tryz.func101,Tryz.ntmps101
  go_wp2
  go_ret
  exact ⟨ret_int hv.out.symm,hb.out⟩
 ·have hv:Hid (stateF l t g at_ = if t.wait = 0 then 2 else if (coF g.purp g.at_ (g.at_ + t.wait) l).isSome = true then 2 else if at_ ≤ g.at_ + t.wait then 8 else 9):=by show _ = _;unfold stateF;rw [if_neg h1]
  have hE:(t.days != 0) = false ∨ ((t.days != 0) = true ∧ decide (g.at_ + t.days * 1440 ≤ at_) = false):=by
   by_cases e:t.days = 0
   ·left;simpa using e
   ·right
    refine ⟨by simpa using e,?_⟩
    have:¬ g.at_ + t.days * 1440 ≤ at_:=fun c => h1 ⟨e,c⟩
    simpa using this
  clear h1
  by_cases hw0:t.wait = 0
  ·have hv2:=Lib.hid (hv.out.trans (if_pos hw0))
   have k3:(t.wait == 0) = true:=by simpa using hw0
   clear hw0
   rcases hE with k1 | ⟨k1,k2⟩
   all_goals
    go_enter Tryz.func101,Tryz.ntmps101
    go_wp2
    go_ret
    exact ⟨ret_int hv2.out.symm,hb.out⟩
  ·have hv2:=Lib.hid (hv.out.trans (if_neg hw0))
   have k3:(t.wait == 0) = false:=by simpa using hw0
   clear hw0 hv
   rcases hE with k1 | ⟨k1,k2⟩
   all_goals
    go_enter Tryz.func101,Tryz.ntmps101
    go_wp2_with fail
    refine (hcf.out _ hin.out).mono ?_
    rintro e w' ⟨rfl,hb2⟩
    have hb3:=Lib.hid (hb.out.trans (hb2.mono hb.out.size))
    have hsz:((w.alloc (.cells #[.string t.region,.int .i64 t.ch,.bool t.free,.int .i64 t.days,.int .i64 t.wait] 68)).alloc (.cells #[.int .i64 g.no,.int .i64 g.at_,.int .i64 g.kind,.string g.text,.string g.purp,.string g.region,.int .i64 g.ch,.int .i64 g.what] 53)).heap.size = w.heap.size + 2:=by simp
    have hk1:w'.heap[w.heap.size]? = some (.cells #[.string t.region,.int .i64 t.ch,.bool t.free,.int .i64 t.days,.int .i64 t.wait] 68):=(hb2.block _ (by omega)).trans ((heap_lt (by simp)).trans (heap_alloc_new _ _))
    have hk2:w'.heap[w.heap.size + 1]? = some (.cells #[.int .i64 g.no,.int .i64 g.at_,.int .i64 g.kind,.string g.text,.string g.purp,.string g.region,.int .i64 g.ch,.int .i64 g.what] 53):=(hb2.block _ (by omega)).trans (heap_at (by simp))
    have x4:w'.cell? ⟨w.heap.size,4,none⟩ = some (.int .i64 t.wait):=cell_h hk1 4 rfl
    have x1:w'.cell? ⟨w.heap.size + 1,1,none⟩ = some (.int .i64 g.at_):=cell_h hk2 1 rfl
    have hst:Hid (∃ d:StD,stV (coF g.purp g.at_ (g.at_ + t.wait) l) = .agg #[.int .i64 d.no,.int .i64 d.at_,.int .i64 d.kind,.string d.text,.string d.purp,.string d.region,.int .i64 d.ch,.int .i64 d.what]):=by
     show ∃ _,_
     cases coF g.purp g.at_ (g.at_ + t.wait) l with
     | none => exact ⟨zeroSt,rfl⟩
     | some d => exact ⟨d,rfl⟩
    obtain ⟨d,hd⟩:=hst.out
    rw [hd]
    clear hd hst hk1 hk2 hsz hcf hin hb2 hb
    generalize hq:(coF g.purp g.at_ (g.at_ + t.wait) l).isSome = q at hv2
    have hb4:=Lib.hid (hb3.out.alloc hb3.out.size (.cells #[.int .i64 d.no,.int .i64 d.at_,.int .i64 d.kind,.string d.text,.string d.purp,.string d.region,.int .i64 d.ch,.int .i64 d.what] 53))
    clear hq
    have x4':=oldc (o:=(.cells #[.int .i64 d.no,.int .i64 d.at_,.int .i64 d.kind,.string d.text,.string d.purp,.string d.region,.int .i64 d.ch,.int .i64 d.what] 53)) x4
    have x1':=oldc (o:=(.cells #[.int .i64 d.no,.int .i64 d.at_,.int .i64 d.kind,.string d.text,.string d.purp,.string d.region,.int .i64 d.ch,.int .i64 d.what] 53)) x1
    clear x4 x1
    cases q with
    | true =>
     have hv3:=Lib.hid (hv2.out.trans (if_pos rfl))
     go_wp2
     go_ret
     exact ⟨ret_int hv3.out.symm,hb4.out⟩
    | false =>
     have hv3:=Lib.hid (hv2.out.trans (if_neg (by simp)))
     by_cases hla:at_ ≤ g.at_ + t.wait
     ·have hv4:=Lib.hid (hv3.out.trans (if_pos hla))
      go_wp2
      go_ret
      exact ⟨ret_int hv4.out.symm,hb4.out⟩
     ·have hv4:=Lib.hid (hv3.out.trans (if_neg hla))
      have hla2:g.at_ + t.wait < at_:=by omega
      go_wp2
      go_ret
      exact ⟨ret_int hv4.out.symm,hb4.out⟩
open Go.RowKit
set_option maxHeartbeats 400000 in
theorem indexInt_any (A:Option Addr) (cap:Nat) (zs:List Int) (x:Int) (w:World) (hA:Ints w A zs) (hl:zs.length ≤ 1000000) :
  Calls Tryz.prog 135 #[.slice A zs.length cap,.int .i64 x] w fun e w' => e = .returned (.int .i64 (idxF (fun z => x == z) zs)) ∧ w = w':=by
 have HA:=Lib.hid hA
 clear hA
 go_enter Tryz.func135,Tryz.ntmps135
 go_wp2
 go_loop [5,8] (fun _ t => ∃ i:Nat,i ≤ zs.length ∧ t = .int .i64 i ∧ Hid ((zs.take i).any (fun z => x == z) = false)) (fun _ t => zs.length - (intOf t).toNat)
 case atStart => exact ⟨0,Nat.zero_le _,rfl,rfl⟩
 case round =>
  obtain ⟨i,hi,rfl,ho⟩:=hrel
  by_cases hlt:i < zs.length
  ·obtain ⟨b,off,rfl,hc⟩:=HA.out i hlt
   have h1:=Lib.hid (idxF_found (p:=fun z => x == z) hlt ho.out)
   have h2:=Lib.hid (any_take_succ (p:=fun z => x == z) hlt ho.out)
   generalize zs[i] = z at hc h1 h2
   cases hz:(x == z) with
   | true =>
    have h3:=Lib.hid (h1.out hz)
    go_wp2
    go_ret
    exact ⟨ret_int h3.out.symm,rfl⟩
   | false =>
    have h3:=Lib.hid (h2.out hz)
    go_wp2
    go_round
    case rel => exact ⟨i + 1,by omega,by go_num,h3⟩
    case measure => simp [intOf];omega
  ·have h3:=Lib.hid (idxF_none (p:=fun z => x == z) (show zs.any _ = false by have:=ho.out;rwa [List.take_of_length_le (by omega)] at this))
   go_wp2
   go_ret
   exact ⟨ret_int h3.out.symm,rfl⟩
theorem rankF_eq (why:Int):idxF (fun z => why == z) [2,8,9,7] = rankF why:=by
 unfold rankF idxF
 by_cases h1:why = 2
 ·subst h1;rfl
 ·by_cases h2:why = 8
  ·subst h2;rfl
  ·by_cases h3:why = 9
   ·subst h3;rfl
   ·by_cases h4:why = 7
    ·subst h4;rfl
    ·have e:([2,8,9,7]:List Int).findIdx? (fun z => why == z) = none:=by simp [List.findIdx?_cons,h1,h2,h3,h4]
     rw [e,if_neg h1,if_neg h2,if_neg h3,if_neg h4]
set_option maxHeartbeats 400000 in
theorem rank_any (why:Int) (w:World):Calls Tryz.prog 102 #[.int .i64 why] w fun e w' => e = .returned (.int .i64 (rankF why)) ∧ Below w.heap.size w w':=by
 have HIN:Hid (Ints (w.alloc (.cells #[.int .i64 2,.int .i64 8,.int .i64 9,.int .i64 7] 3)) (some ⟨w.heap.size,0,none⟩) [2,8,9,7]):=Ints.of_row (heap_at rfl) rfl
 have HB:=Lib.hid (new1 (w:=w) (.cells #[.int .i64 2,.int .i64 8,.int .i64 9,.int .i64 7] 3))
 go_enter Tryz.func102,Tryz.ntmps102
 go_wp2_with fail
 refine (indexInt_any _ _ [2,8,9,7] why _ HIN.out (by simp)).mono ?_
 rintro e w' ⟨rfl,rfl⟩
 rw [rankF_eq]
 generalize hq:rankF why = q
 have HQ:=Lib.hid hq
 clear hq
 go_wp2_with fail
 go_ret
 exact ⟨ret_int HQ.out.symm,HB.out⟩
theorem infoSta:(Tryz.prog.info? 53).map (fun i => (i.zero,i.size,i.bytes)) = some (some (.agg #[.int .i64 0,.int .i64 0,.int .i64 0,.string ⟨#[]⟩,.string ⟨#[]⟩,.string ⟨#[]⟩,.int .i64 0,.int .i64 0]),8,88):=by kernel_rfl
theorem wdF_snoc {purp:ByteArray} {l:List StD} {i:Nat} (h:i < l.length):wdF purp (l.take (i + 1)) = wdStep purp (wdF purp (l.take i)) l[i]:=by
 unfold wdF
 rw [List.take_succ_eq_append_getElem h,List.foldl_append]
 rfl
theorem filter_snoc {D:Type} (p:D → Bool) {l:List D} {i:Nat} (h:i < l.length):(l.take (i + 1)).filter p = (l.take i).filter p ++ (if p l[i] = true then [l[i]] else []):=by
 rw [List.take_succ_eq_append_getElem h,List.filter_append]
 simp [List.filter_cons]
theorem grown_set8 (w1:World) (g:Nat) (a0 a1 a2 a3 a4 a5 a6 a7:Value):w1.grownBy ((((((((w1.setCell ⟨g,0,none⟩ a0).setCell ⟨g,1,none⟩ a1).setCell ⟨g,2,none⟩ a2).setCell ⟨g,3,none⟩ a3).setCell ⟨g,4,none⟩ a4).setCell ⟨g,5,none⟩ a5).setCell ⟨g,6,none⟩ a6).setCell ⟨g,7,none⟩ a7) (some g):=(grown_setC (grown_setC (grown_setC (grown_setC (grown_setC (grown_setC (grown_setC (grown_setC (World.grownBy.refl _ _) 0 a0) 1 a1) 2 a2) 3 a3) 4 a4) 5 a5) 6 a6) 7 a7)
theorem drew_heap {w:World} {g:Nat} {o:Obj} (h:w.heap[g]? = some o):w.drew.heap[g]? = some o:=h
theorem Orow.drew {D:Type} {w:World} {B T k:Nat} {f:D → Nat → Value} {v:Value} {ds:List D} (h:Orow w B T k f v ds):Orow w.drew B T k f v ds:=h
theorem stV_eq {o:Option StD} {d:StD} (h:d = o.getD zeroSt):stV o = .agg #[.int .i64 d.no,.int .i64 d.at_,.int .i64 d.kind,.string d.text,.string d.purp,.string d.region,.int .i64 d.ch,.int .i64 d.what]:=by
 subst h
 cases o <;> rfl
def G1 (w:World) (purp:ByteArray) (l:List StD) (i:Nat) (o:Option StD) (d:StD) (wr:World):Prop:=o = wdF purp (l.take i) ∧ d = o.getD zeroSt ∧ Below w.heap.size w wr ∧ wr.heap[w.heap.size]? = some (.cells #[.int .i64 d.no,.int .i64 d.at_,.int .i64 d.kind,.string d.text,.string d.purp,.string d.region,.int .i64 d.ch,.int .i64 d.what] 53)
def GrPost (w:World) (purp:ByteArray) (l:List StD) (e:Ending) (w':World):Prop:=∃ v,e = .returned (.tuple #[v,stV (wdF purp l),.bool (wdF purp l).isSome]) ∧ Orow w' w.heap.size 53 8 fSt v (grF purp l) ∧ Below w.heap.size w w'
set_option maxHeartbeats 4000000 in
set_option maxRecDepth 100000 in
theorem grants_any (H:Frz) (A:Option Addr) (cap:Nat) (l:List StD) (purp:ByteArray) (w:World) (hH:H.In w) (hR:Rw H A 8 fSt l) (hl:l.length ≤ 1000000) :
  Calls Tryz.prog 100 #[.slice A l.length cap,.string purp] w (GrPost w purp l):=by
 obtain ⟨i0,hi0,hz0,hz1,hz2⟩:=info_parts infoSta
 have HR:=Lib.hid hR
 have HH:=Lib.hid hH
 have HG0:Hid (G1 w purp l 0 none zeroSt (w.alloc (.cells #[.int .i64 zeroSt.no,.int .i64 zeroSt.at_,.int .i64 zeroSt.kind,.string zeroSt.text,.string zeroSt.purp,.string zeroSt.region,.int .i64 zeroSt.ch,.int .i64 zeroSt.what] 53))):=⟨rfl,rfl,new1 _,heap_alloc_new _ _⟩
 clear hR hH
 go_enter Tryz.func100,Tryz.ntmps100
 go_wp2_with fail
 go_loopw [6,13] (fun s t wr => ∃ (i:Nat) (o:Option StD) (d:StD),i ≤ l.length ∧ t = .int .i64 i ∧ s = .bool o.isSome ∧ Hid (G1 w purp l i o d wr)) (fun _ t _ => l.length - (intOf t).toNat)
 case atStart => exact ⟨0,none,zeroSt,by omega,rfl,rfl,HG0⟩
 case round =>
  obtain ⟨i,o,d0,hi,rfl,rfl,hG⟩:=hrel
  obtain ⟨ho,hd0,hb,hk⟩:=hG.out
  clear HG0
  by_cases hlt:i < l.length
  ·obtain ⟨b,off,rfl,hbl,hc⟩:=HR.out.at_ (HH.out.below hb) hlt (by omega)
   have c0:wr.cell? ⟨b,off + i * 8,none⟩ = some (.int .i64 l[i].no):=hc 0 (by omega)
   have c1:wr.cell? ⟨b,off + i * 8 + 1,none⟩ = some (.int .i64 l[i].at_):=hc 1 (by omega)
   have c2:wr.cell? ⟨b,off + i * 8 + 2,none⟩ = some (.int .i64 l[i].kind):=hc 2 (by omega)
   have c3:wr.cell? ⟨b,off + i * 8 + 3,none⟩ = some (.string l[i].text):=hc 3 (by omega)
   have c4:wr.cell? ⟨b,off + i * 8 + 4,none⟩ = some (.string l[i].purp):=hc 4 (by omega)
   have c5:wr.cell? ⟨b,off + i * 8 + 5,none⟩ = some (.string l[i].region):=hc 5 (by omega)
   have c6:wr.cell? ⟨b,off + i * 8 + 6,none⟩ = some (.int .i64 l[i].ch):=hc 6 (by omega)
   have c7:wr.cell? ⟨b,off + i * 8 + 7,none⟩ = some (.int .i64 l[i].what):=hc 7 (by omega)
   have HO:Hid (wdF purp (l.take (i + 1)) = wdStep purp o l[i]):=(wdF_snoc hlt).trans (by rw [ho])
   clear hc
   generalize l[i] = d at *
   have z0:(wr.alloc (.cells #[.int .i64 d.no,.int .i64 d.at_,.int .i64 d.kind,.string d.text,.string d.purp,.string d.region,.int .i64 d.ch,.int .i64 d.what] 53)).cell? ⟨wr.heap.size,0,none⟩ = some (.int .i64 d.no):=newc 0 rfl
   have z1:(wr.alloc (.cells #[.int .i64 d.no,.int .i64 d.at_,.int .i64 d.kind,.string d.text,.string d.purp,.string d.region,.int .i64 d.ch,.int .i64 d.what] 53)).cell? ⟨wr.heap.size,1,none⟩ = some (.int .i64 d.at_):=newc 1 rfl
   have z2:(wr.alloc (.cells #[.int .i64 d.no,.int .i64 d.at_,.int .i64 d.kind,.string d.text,.string d.purp,.string d.region,.int .i64 d.ch,.int .i64 d.what] 53)).cell? ⟨wr.heap.size,2,none⟩ = some (.int .i64 d.kind):=newc 2 rfl
   have z3:(wr.alloc (.cells #[.int .i64 d.no,.int .i64 d.at_,.int .i64 d.kind,.string d.text,.string d.purp,.string d.region,.int .i64 d.ch,.int .i64 d.what] 53)).cell? ⟨wr.heap.size,3,none⟩ = some (.string d.text):=newc 3 rfl
   have z4:(wr.alloc (.cells #[.int .i64 d.no,.int .i64 d.at_,.int .i64 d.kind,.string d.text,.string d.purp,.string d.region,.int .i64 d.ch,.int .i64 d.what] 53)).cell? ⟨wr.heap.size,4,none⟩ = some (.string d.purp):=newc 4 rfl
   have z5:(wr.alloc (.cells #[.int .i64 d.no,.int .i64 d.at_,.int .i64 d.kind,.string d.text,.string d.purp,.string d.region,.int .i64 d.ch,.int .i64 d.what] 53)).cell? ⟨wr.heap.size,5,none⟩ = some (.string d.region):=newc 5 rfl
   have z6:(wr.alloc (.cells #[.int .i64 d.no,.int .i64 d.at_,.int .i64 d.kind,.string d.text,.string d.purp,.string d.region,.int .i64 d.ch,.int .i64 d.what] 53)).cell? ⟨wr.heap.size,6,none⟩ = some (.int .i64 d.ch):=newc 6 rfl
   have z7:(wr.alloc (.cells #[.int .i64 d.no,.int .i64 d.at_,.int .i64 d.kind,.string d.text,.string d.purp,.string d.region,.int .i64 d.ch,.int .i64 d.what] 53)).cell? ⟨wr.heap.size,7,none⟩ = some (.int .i64 d.what):=newc 7 rfl
   have HBN:=Lib.hid (new1 (w:=wr) (.cells #[.int .i64 d.no,.int .i64 d.at_,.int .i64 d.kind,.string d.text,.string d.purp,.string d.region,.int .i64 d.ch,.int .i64 d.what] 53))
   go_upto_region 4 with (fail)
   clear c0 c1 c2 c3 c4 c5 c6 c7
   have hk1:=(HBN.out.block _ (lt_of_heap hk)).trans hk
   have hne:¬ wr.heap.size = w.heap.size:=by have:=lt_of_heap hk;omega
   have hne':¬ w.heap.size = wr.heap.size:=by omega
   generalize wr.alloc (.cells #[.int .i64 d.no,.int .i64 d.at_,.int .i64 d.kind,.string d.text,.string d.purp,.string d.region,.int .i64 d.ch,.int .i64 d.what] 53) = W1 at *
   have HB1:=Lib.hid (hb.trans (HBN.out.mono hb.size))
   have x0:W1.cell? ⟨w.heap.size,0,none⟩ = some (.int .i64 d0.no):=cell_h hk1 0 rfl
   have y0:=froz_h hk1 0
   have x1:W1.cell? ⟨w.heap.size,1,none⟩ = some (.int .i64 d0.at_):=cell_h hk1 1 rfl
   have y1:=froz_h hk1 1
   have x2:W1.cell? ⟨w.heap.size,2,none⟩ = some (.int .i64 d0.kind):=cell_h hk1 2 rfl
   have y2:=froz_h hk1 2
   have x3:W1.cell? ⟨w.heap.size,3,none⟩ = some (.string d0.text):=cell_h hk1 3 rfl
   have y3:=froz_h hk1 3
   have x4:W1.cell? ⟨w.heap.size,4,none⟩ = some (.string d0.purp):=cell_h hk1 4 rfl
   have y4:=froz_h hk1 4
   have x5:W1.cell? ⟨w.heap.size,5,none⟩ = some (.string d0.region):=cell_h hk1 5 rfl
   have y5:=froz_h hk1 5
   have x6:W1.cell? ⟨w.heap.size,6,none⟩ = some (.int .i64 d0.ch):=cell_h hk1 6 rfl
   have y6:=froz_h hk1 6
   have x7:W1.cell? ⟨w.heap.size,7,none⟩ = some (.int .i64 d0.what):=cell_h hk1 7 rfl
   have y7:=froz_h hk1 7
   have HK1:=Lib.hid hk1
   have HO0:=Lib.hid ho
   have HD0:=Lib.hid hd0
   clear hb HBN hk1 hk hG ho hd0
   by_cases hall:d.what = 3 ∧ eqS d.purp purp = true ∧ (o.isNone = true ∨ (o.getD zeroSt).at_ < d.at_)
   ·have HS:Hid (wdF purp (l.take (i + 1)) = some d):=HO.out.trans (by unfold wdStep;rw [if_pos hall])
    obtain ⟨h1,h2,h3⟩:=hall
    have k1:(d.what == 3) = true:=by simpa using h1
    have k2:(d.purp.toList == purp.toList) = true:=h2
    have HF:Hid (G1 w purp l (i + 1) (some d) d ((((((((W1.setCell ⟨w.heap.size,0,none⟩ (.int .i64 d.no)).setCell ⟨w.heap.size,1,none⟩ (.int .i64 d.at_)).setCell ⟨w.heap.size,2,none⟩ (.int .i64 d.kind)).setCell ⟨w.heap.size,3,none⟩ (.string d.text)).setCell ⟨w.heap.size,4,none⟩ (.string d.purp)).setCell ⟨w.heap.size,5,none⟩ (.string d.region)).setCell ⟨w.heap.size,6,none⟩ (.int .i64 d.ch)).setCell ⟨w.heap.size,7,none⟩ (.int .i64 d.what))):=⟨HS.out.symm,rfl,below_set8 HB1.out (Nat.le_refl _) _ _ _ _ _ _ _ _,set8 HK1.out _ _ _ _ _ _ _ _⟩
    rw [← HD0.out] at h3
    clear h1 h2
    cases o with
    | none =>
     clear h3
     go_wp2_with fail
     go_roundw
     case rel => exact ⟨i + 1,some d,d,by omega,by go_num,rfl,HF⟩
     case measure => simp [intOf];omega
    | some o =>
     have k3:decide (d0.at_ < d.at_) = true:=by
      rcases h3 with h3 | h3
      ·cases h3
      ·simpa using h3
     clear h3
     go_wp2_with fail
     go_roundw
     case rel => exact ⟨i + 1,some d,d,by omega,by go_num,rfl,HF⟩
     case measure => simp [intOf];omega
   ·have HS:Hid (wdF purp (l.take (i + 1)) = o):=HO.out.trans (by unfold wdStep;rw [if_neg hall])
    have HF:Hid (G1 w purp l (i + 1) o d0 W1):=⟨HS.out.symm,HD0.out,HB1.out,HK1.out⟩
    cases k1:(d.what == 3) with
    | false =>
     clear hall
     go_wp2_with fail
     go_roundw
     case rel => exact ⟨i + 1,o,d0,by omega,by go_num,rfl,HF⟩
     case measure => simp [intOf];omega
    | true =>
     cases k2:(d.purp.toList == purp.toList) with
     | false =>
      clear hall
      go_wp2_with fail
      go_roundw
      case rel => exact ⟨i + 1,o,d0,by omega,by go_num,rfl,HF⟩
      case measure => simp [intOf];omega
     | true =>
      have h4:¬ (o.isNone = true ∨ d0.at_ < d.at_):=by
       intro c
       rw [HD0.out] at c
       exact hall ⟨by simpa using k1,k2,c⟩
      cases o with
      | none => exact absurd (Or.inl rfl) h4
      | some o =>
       have k3:decide (d0.at_ < d.at_) = false:=by
        have:¬ d0.at_ < d.at_:=fun c => h4 (Or.inr c)
        simpa using this
       clear hall h4
       go_wp2_with fail
       go_roundw
       case rel => exact ⟨i + 1,some o,d0,by omega,by go_num,rfl,HF⟩
       case measure => simp [intOf];omega
  ·have hie:i = l.length:=by omega
   subst hie
   have HO:Hid (wdF purp l = o):=by rw [ho,List.take_length];exact rfl
   have HOR:Hid (Orow wr (w.heap.size + 1) 53 8 fSt (.slice none 0 0) ((l.take 0).filter (grB purp o))):=Orow.nil _ _ _ _ _
   have HB:=Lib.hid hb
   have HK:=Lib.hid hk
   have HD0:=Lib.hid hd0
   clear ho hb hk hG hd0
   obtain ⟨wo,rfl⟩:∃ wo:World,wo = wr:=⟨_,rfl⟩
   go_wp2_with fail
   generalize hq:o.isSome = q
   have HQ:=Lib.hid hq
   clear hq
   go_loopw [4,41] (fun v t wr => ∃ (i:Nat),i ≤ l.length ∧ t = .int .i64 i ∧ Hid (Orow wr (w.heap.size + 1) 53 8 fSt v ((l.take i).filter (grB purp o))) ∧ Hid (Below w.heap.size w wr) ∧ Hid (wr.heap[w.heap.size]? = some (.cells #[.int .i64 d0.no,.int .i64 d0.at_,.int .i64 d0.kind,.string d0.text,.string d0.purp,.string d0.region,.int .i64 d0.ch,.int .i64 d0.what] 53))) (fun _ t _ => l.length - (intOf t).toNat)
   case atStart => exact ⟨0,by omega,rfl,HOR,HB,HK⟩
   case round =>
    obtain ⟨i,hi,rfl,hor,hb,hkr⟩:=hrel
    clear HOR HB HK
    by_cases hlt:i < l.length
    ·obtain ⟨b,off,rfl,hbl,hc⟩:=HR.out.at_ (HH.out.below hb.out) hlt (by omega)
     have c0:wr.cell? ⟨b,off + i * 8,none⟩ = some (.int .i64 l[i].no):=hc 0 (by omega)
     have c1:wr.cell? ⟨b,off + i * 8 + 1,none⟩ = some (.int .i64 l[i].at_):=hc 1 (by omega)
     have c2:wr.cell? ⟨b,off + i * 8 + 2,none⟩ = some (.int .i64 l[i].kind):=hc 2 (by omega)
     have c3:wr.cell? ⟨b,off + i * 8 + 3,none⟩ = some (.string l[i].text):=hc 3 (by omega)
     have c4:wr.cell? ⟨b,off + i * 8 + 4,none⟩ = some (.string l[i].purp):=hc 4 (by omega)
     have c5:wr.cell? ⟨b,off + i * 8 + 5,none⟩ = some (.string l[i].region):=hc 5 (by omega)
     have c6:wr.cell? ⟨b,off + i * 8 + 6,none⟩ = some (.int .i64 l[i].ch):=hc 6 (by omega)
     have c7:wr.cell? ⟨b,off + i * 8 + 7,none⟩ = some (.int .i64 l[i].what):=hc 7 (by omega)
     have HSN:=Lib.hid (filter_snoc (grB purp o) hlt)
     have hlen:((l.take i).filter (grB purp o)).length ≤ 1000000:=by
      have:=List.length_filter_le (grB purp o) (l.take i)
      have:=List.length_take_le i l
      omega
     clear hc
     generalize l[i] = d at *
     have z0:(wr.alloc (.cells #[.int .i64 d.no,.int .i64 d.at_,.int .i64 d.kind,.string d.text,.string d.purp,.string d.region,.int .i64 d.ch,.int .i64 d.what] 53)).cell? ⟨wr.heap.size,0,none⟩ = some (.int .i64 d.no):=newc 0 rfl
     have z1:(wr.alloc (.cells #[.int .i64 d.no,.int .i64 d.at_,.int .i64 d.kind,.string d.text,.string d.purp,.string d.region,.int .i64 d.ch,.int .i64 d.what] 53)).cell? ⟨wr.heap.size,1,none⟩ = some (.int .i64 d.at_):=newc 1 rfl
     have z2:(wr.alloc (.cells #[.int .i64 d.no,.int .i64 d.at_,.int .i64 d.kind,.string d.text,.string d.purp,.string d.region,.int .i64 d.ch,.int .i64 d.what] 53)).cell? ⟨wr.heap.size,2,none⟩ = some (.int .i64 d.kind):=newc 2 rfl
     have z3:(wr.alloc (.cells #[.int .i64 d.no,.int .i64 d.at_,.int .i64 d.kind,.string d.text,.string d.purp,.string d.region,.int .i64 d.ch,.int .i64 d.what] 53)).cell? ⟨wr.heap.size,3,none⟩ = some (.string d.text):=newc 3 rfl
     have z4:(wr.alloc (.cells #[.int .i64 d.no,.int .i64 d.at_,.int .i64 d.kind,.string d.text,.string d.purp,.string d.region,.int .i64 d.ch,.int .i64 d.what] 53)).cell? ⟨wr.heap.size,4,none⟩ = some (.string d.purp):=newc 4 rfl
     have z5:(wr.alloc (.cells #[.int .i64 d.no,.int .i64 d.at_,.int .i64 d.kind,.string d.text,.string d.purp,.string d.region,.int .i64 d.ch,.int .i64 d.what] 53)).cell? ⟨wr.heap.size,5,none⟩ = some (.string d.region):=newc 5 rfl
     have z6:(wr.alloc (.cells #[.int .i64 d.no,.int .i64 d.at_,.int .i64 d.kind,.string d.text,.string d.purp,.string d.region,.int .i64 d.ch,.int .i64 d.what] 53)).cell? ⟨wr.heap.size,6,none⟩ = some (.int .i64 d.ch):=newc 6 rfl
     have z7:(wr.alloc (.cells #[.int .i64 d.no,.int .i64 d.at_,.int .i64 d.kind,.string d.text,.string d.purp,.string d.region,.int .i64 d.ch,.int .i64 d.what] 53)).cell? ⟨wr.heap.size,7,none⟩ = some (.int .i64 d.what):=newc 7 rfl
     have HBN:=Lib.hid (new1 (w:=wr) (.cells #[.int .i64 d.no,.int .i64 d.at_,.int .i64 d.kind,.string d.text,.string d.purp,.string d.region,.int .i64 d.ch,.int .i64 d.what] 53))
     go_upto_region 10 with (fail)
     clear c0 c1 c2 c3 c4 c5 c6 c7
     have hk1:=(HBN.out.block _ (lt_of_heap hkr.out)).trans hkr.out
     have hne:¬ wr.heap.size = w.heap.size:=by have:=lt_of_heap hkr.out;omega
     have hne':¬ w.heap.size = wr.heap.size:=by omega
     have HO1:=Lib.hid (hor.out.below HBN.out)
     generalize wr.alloc (.cells #[.int .i64 d.no,.int .i64 d.at_,.int .i64 d.kind,.string d.text,.string d.purp,.string d.region,.int .i64 d.ch,.int .i64 d.what] 53) = W1 at *
     have HB1:=Lib.hid (hb.out.trans (HBN.out.mono hb.out.size))
     have x0:W1.cell? ⟨w.heap.size,0,none⟩ = some (.int .i64 d0.no):=cell_h hk1 0 rfl
     have y0:=froz_h hk1 0
     have x1:W1.cell? ⟨w.heap.size,1,none⟩ = some (.int .i64 d0.at_):=cell_h hk1 1 rfl
     have y1:=froz_h hk1 1
     have x2:W1.cell? ⟨w.heap.size,2,none⟩ = some (.int .i64 d0.kind):=cell_h hk1 2 rfl
     have y2:=froz_h hk1 2
     have x3:W1.cell? ⟨w.heap.size,3,none⟩ = some (.string d0.text):=cell_h hk1 3 rfl
     have y3:=froz_h hk1 3
     have x4:W1.cell? ⟨w.heap.size,4,none⟩ = some (.string d0.purp):=cell_h hk1 4 rfl
     have y4:=froz_h hk1 4
     have x5:W1.cell? ⟨w.heap.size,5,none⟩ = some (.string d0.region):=cell_h hk1 5 rfl
     have y5:=froz_h hk1 5
     have x6:W1.cell? ⟨w.heap.size,6,none⟩ = some (.int .i64 d0.ch):=cell_h hk1 6 rfl
     have y6:=froz_h hk1 6
     have x7:W1.cell? ⟨w.heap.size,7,none⟩ = some (.int .i64 d0.what):=cell_h hk1 7 rfl
     have y7:=froz_h hk1 7
     have HK1:=Lib.hid hk1
     have hBw:w.heap.size + 1 ≤ W1.heap.size:=lt_of_heap hk1
     generalize (l.take i).filter (grB purp o) = ds at HO1 HSN hlen
     clear hb HBN hk1 hkr hor
     by_cases hall:grB purp o d = true
     ·have HS:=Lib.hid (HSN.out.trans (by rw [if_pos hall]))
      have hpp:d.what = 1 ∧ eqS d.purp purp = true ∧ (o.isNone = true ∨ d0.at_ < d.at_):=by
       rw [HD0.out]
       simpa [grB,and_assoc] using hall
      obtain ⟨h1,h2,h3⟩:=hpp
      have k1:(d.what == 1) = true:=by simpa using h1
      have k2:(d.purp.toList == purp.toList) = true:=h2
      clear h1 h2 hall
      have hE:q = false ∨ (q = true ∧ decide (d0.at_ < d.at_) = true):=by
       rw [← HQ.out]
       cases o with
       | none => left;rfl
       | some o =>
        right
        rcases h3 with h3 | h3
        ·cases h3
        ·exact ⟨rfl,by simpa using h3⟩
      clear h3
      rcases hE with rfl | ⟨rfl,k3⟩
      all_goals
       go_wp2_with (at_builtin;refine wpList_app_at rfl _ _ 79 rfl (w.heap.size + 1) 53 i0 (.agg #[.int .i64 0,.int .i64 0,.int .i64 0,.string ⟨#[]⟩,.string ⟨#[]⟩,.string ⟨#[]⟩,.int .i64 0,.int .i64 0]) 8 88 Tryz.underlying79 hi0 hz0 hz1 hz2 rfl (by decide) fSt _ ds rfl HO1.out d #[.int .i64 d.no,.int .i64 d.at_,.int .i64 d.kind,.string d.text,.string d.purp,.string d.region,.int .i64 d.ch,.int .i64 d.what] 53 rfl rfl (by simp [Value.oneCell']) (by omega) (by omega) hBw ?_;intro v1 w2 o1 g1 b1 at1;have HO2:=Lib.hid o1;have HB2:=Lib.hid (HB1.out.trans (b1.mono (by omega)));have HK2:=Lib.hid ((b1.block w.heap.size (by omega)).trans HK1.out);clear o1 g1 b1 at1)
       rw [← HS.out] at HO2
       go_roundw
       case rel => exact ⟨i + 1,by omega,by go_num,HO2,HB2,HK2⟩
       case measure => simp [intOf];omega
     ·have HS:=Lib.hid (HSN.out.trans (by rw [if_neg hall,List.append_nil]))
      rw [← HS.out] at HO1
      cases k1:(d.what == 1) with
      | false =>
       clear hall
       go_wp2_with fail
       go_roundw
       case rel => exact ⟨i + 1,by omega,by go_num,HO1,HB1,HK1⟩
       case measure => simp [intOf];omega
      | true =>
       cases k2:(d.purp.toList == purp.toList) with
       | false =>
        clear hall
        go_wp2_with fail
        go_roundw
        case rel => exact ⟨i + 1,by omega,by go_num,HO1,HB1,HK1⟩
        case measure => simp [intOf];omega
       | true =>
        have h4:q = true ∧ decide (d0.at_ < d.at_) = false:=by
         rw [← HQ.out]
         have h5:¬ (o.isNone = true ∨ d0.at_ < d.at_):=by
          intro c
          rw [HD0.out] at c
          exact hall (by
           have e1:d.what = 1:=by simpa using k1
           have e2:eqS d.purp purp = true:=k2
           rw [show grB purp o d = (decide (d.what = 1) && eqS d.purp purp && (o.isNone || decide ((o.getD zeroSt).at_ < d.at_))) from rfl,e1,e2];simpa using c)
         cases o with
         | none => exact absurd (Or.inl rfl) h5
         | some o => exact ⟨rfl,by have:¬ d0.at_ < d.at_:=fun c => h5 (Or.inr c);simpa using this⟩
        obtain ⟨k4,k3⟩:=h4
        clear hall
        subst k4
        go_wp2_with fail
        go_roundw
        case rel => exact ⟨i + 1,by omega,by go_num,HO1,HB1,HK1⟩
        case measure => simp [intOf];omega
    ·have hie:i = l.length:=by omega
     subst hie
     obtain ⟨vg,rfl⟩:∃ vg:Value,vg = u4:=⟨_,rfl⟩
     have HO2:Hid (Orow wr (w.heap.size + 1) 53 8 fSt vg (grF purp l)):=by
      have:=hor.out
      rw [List.take_length,← HO.out] at this
      exact this
     have hk1:=hkr.out
     have x0:wr.cell? ⟨w.heap.size,0,none⟩ = some (.int .i64 d0.no):=cell_h hk1 0 rfl
     have y0:=froz_h hk1 0
     have x1:wr.cell? ⟨w.heap.size,1,none⟩ = some (.int .i64 d0.at_):=cell_h hk1 1 rfl
     have y1:=froz_h hk1 1
     have x2:wr.cell? ⟨w.heap.size,2,none⟩ = some (.int .i64 d0.kind):=cell_h hk1 2 rfl
     have y2:=froz_h hk1 2
     have x3:wr.cell? ⟨w.heap.size,3,none⟩ = some (.string d0.text):=cell_h hk1 3 rfl
     have y3:=froz_h hk1 3
     have x4:wr.cell? ⟨w.heap.size,4,none⟩ = some (.string d0.purp):=cell_h hk1 4 rfl
     have y4:=froz_h hk1 4
     have x5:wr.cell? ⟨w.heap.size,5,none⟩ = some (.string d0.region):=cell_h hk1 5 rfl
     have y5:=froz_h hk1 5
     have x6:wr.cell? ⟨w.heap.size,6,none⟩ = some (.int .i64 d0.ch):=cell_h hk1 6 rfl
     have y6:=froz_h hk1 6
     have x7:wr.cell? ⟨w.heap.size,7,none⟩ = some (.int .i64 d0.what):=cell_h hk1 7 rfl
     have y7:=froz_h hk1 7
     have HK9:=Lib.hid (set8 hk1 (.int .i64 d0.no) (.int .i64 d0.at_) (.int .i64 d0.kind) (.string d0.text) (.string d0.purp) (.string d0.region) (.int .i64 d0.ch) (.int .i64 d0.what))
     have HB9:=Lib.hid (below_set8 hb.out (Nat.le_refl _) (.int .i64 d0.no) (.int .i64 d0.at_) (.int .i64 d0.kind) (.string d0.text) (.string d0.purp) (.string d0.region) (.int .i64 d0.ch) (.int .i64 d0.what))
     have HO9:=Lib.hid ((HO2.out.far (grown_set8 wr w.heap.size (.int .i64 d0.no) (.int .i64 d0.at_) (.int .i64 d0.kind) (.string d0.text) (.string d0.purp) (.string d0.region) (.int .i64 d0.ch) (.int .i64 d0.what)) (by omega)).mono (show w.heap.size ≤ w.heap.size + 1 by omega)).drew
     have HK8:=Lib.hid (drew_heap HK9.out)
     have HB8:=Lib.hid HB9.out.drew
     have HSV:=Lib.hid (stV_eq HD0.out)
     clear hk1
     go_wp2_with fail
     go_region
     go_wp2_with fail
     generalize World.drew _ = W9 at *
     have u0:=cell_h HK8.out 0 (v:=.int .i64 d0.no) rfl
     have u1:=cell_h HK8.out 1 (v:=.int .i64 d0.at_) rfl
     have u2:=cell_h HK8.out 2 (v:=.int .i64 d0.kind) rfl
     have u3:=cell_h HK8.out 3 (v:=.string d0.text) rfl
     have u4:=cell_h HK8.out 4 (v:=.string d0.purp) rfl
     have u5:=cell_h HK8.out 5 (v:=.string d0.region) rfl
     have u6:=cell_h HK8.out 6 (v:=.int .i64 d0.ch) rfl
     have u7:=cell_h HK8.out 7 (v:=.int .i64 d0.what) rfl
     refine bodyPost_ret (v:=.tuple #[vg,.agg #[.int .i64 d0.no,.int .i64 d0.at_,.int .i64 d0.kind,.string d0.text,.string d0.purp,.string d0.region,.int .i64 d0.ch,.int .i64 d0.what],.bool q]) (by simp [results,Tryz.results100,go_sem,u0,u1,u2,u3,u4,u5,u6,u7]) rfl ⟨vg,?_,HO9.out,HB8.out⟩
     rw [HO.out,HSV.out,HQ.out]
end Go.Proofs.YtcncifmanodabaaGreatDoor
