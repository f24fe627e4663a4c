/- Texts of this claim, put together: ConsK3. -/
import Derived.Test.YtcncifmanodabaaGreatDoorGAJ
import Derived.Test.YtcncifmanodabaaGreatDoorGAH
import Derived.Test.YtcncifmanodabaaGreatDoorGAK
namespace Go.Proofs.YtcncifmanodabaaGreatDoor
set_option linter.unusedVariables false
open Go.RowKit
theorem chain_pw {D:Type} {R:D → D → Prop} (ht:∀ a b c,R a b → R b c → R a c) {l:List D} (h:∀ i (h1:i + 1 < l.length),R l[i] l[i + 1]):l.Pairwise R:=by
 rw [List.pairwise_iff_getElem]
 intro i j hi hj hij
 have:∀ k,(hk:i + k + 1 < l.length) → R l[i] l[i + k + 1]:=by
  intro k
  induction k with
  | zero => intro hk;exact h i hk
  | succ k ih =>
   intro hk
   exact ht _ _ _ (ih (by omega)) (h (i + k + 1) hk)
 have h2:=this (j - i - 1) (by omega)
 have e:i + (j - i - 1) + 1 = j:=by omega
 simp only [e] at h2
 exact h2
theorem tes_right {ts:List TermD} (h:tesErr ts = 0):TerSorted ts ∧ ∀ t ∈ ts,(0 ≤ t.days ∧ t.days ≤ 2000) ∧ 0 ≤ t.wait ∧ t.wait ≤ 100000:=by
 unfold tesErr at h
 split at h
 ·omega
 ·rw [fstErr_zero] at h
  refine ⟨chain_pw (R:=fun a b => teCmp a b < 0) (fun a b c h1 h2 => teCmp_trans h1 h2) (fun i h1 => ?_),fun t ht => ?_⟩
  ·have h2:=h (i + 1) h1
   rw [teErr_at h1] at h2
   by_cases a1:isKey ts[i + 1].region = false
   ·rw [if_pos a1] at h2;omega
   ·rw [if_neg a1] at h2
    by_cases a2:chB ts[i + 1].ch = false
    ·rw [if_pos a2] at h2;omega
    ·rw [if_neg a2] at h2
     split at h2
     ·omega
     ·split at h2
      ·omega
      ·split at h2
       ·omega
       ·rename_i a5
        have e:ts.getD (i + 1 - 1) zeroTe = ts[i]:=by rw [Nat.add_sub_cancel,List.getD_eq_getElem?_getD,List.getElem?_eq_getElem (by omega)];rfl
        rw [e] at a5
        apply Classical.byContradiction
        intro c
        exact a5 ⟨by omega,by omega⟩
  ·obtain ⟨i,hi,rfl⟩:=List.mem_iff_getElem.1 ht
   have h2:=h i hi
   rw [teErr_at hi] at h2
   by_cases a1:isKey ts[i].region = false
   ·rw [if_pos a1] at h2;omega
   ·rw [if_neg a1] at h2
    by_cases a2:chB ts[i].ch = false
    ·rw [if_pos a2] at h2;omega
    ·rw [if_neg a2] at h2
     split at h2
     ·omega
     ·split at h2
      ·omega
      ·rename_i a4
       have:=Classical.not_not.1 a4
       exact ⟨⟨this.1,this.2.1⟩,this.2.2.1,this.2.2.2⟩
theorem pol_right {ps:List PurD} (h:polErr ps = 0):PurSorted ps ∧ ∀ p ∈ ps,tesErr p.terms = 0:=by
 unfold polErr at h
 split at h
 ·omega
 ·split at h
  ·omega
  ·rw [fstErr_zero] at h
   refine ⟨chain_pw (R:=fun a b:PurD => cmpS a.name b.name < 0) (fun a b c h1 h2 => cmpS_trans h1 h2) (fun i h1 => ?_),fun p hp => ?_⟩
   ·have h2:=h (i + 1) h1
    rw [puErr_at h1] at h2
    split at h2
    ·omega
    ·split at h2
     ·omega
     ·rename_i a5
      have e:(ps.getD (i + 1 - 1) ps[i + 1]) = ps[i]:=by rw [Nat.add_sub_cancel,List.getD_eq_getElem?_getD,List.getElem?_eq_getElem (by omega)];rfl
      rw [e] at a5
      apply Classical.byContradiction
      intro c
      exact a5 ⟨by omega,by omega⟩
   ·obtain ⟨i,hi,rfl⟩:=List.mem_iff_getElem.1 hp
    have h2:=h i hi
    rw [puErr_at hi] at h2
    split at h2
    ·omega
    ·split at h2
     ·omega
     ·exact h2
theorem stErr_at (idE:Int → ByteArray → Int) {ps:List PurD} {ss:List StD} {i:Nat} (h:i < ss.length):stErr idE ps ss i = if ¬ (1 ≤ ss[i].no ∧ ss[i].no ≤ 1000000) then 1 else if 0 < i ∧ ss[i].no ≤ (ss.getD (i - 1) ss[i]).no then 7 else if ¬ (0 ≤ ss[i].at_ ∧ ss[i].at_ ≤ 4321439) then 1
  else if idE ss[i].kind ss[i].text ≠ 0 then idE ss[i].kind ss[i].text
  else if ¬ (chB ss[i].ch = true ∧ 1 ≤ ss[i].what ∧ ss[i].what ≤ 5) then 4
  else if ofCh ss[i].what = true ∧ ¬ ss[i].purp.size = 0 then 3 else if ofCh ss[i].what = false ∧ (purF ps ss[i].purp).isNone = true then 8
  else if isKey ss[i].region = false then 5 else 0:=by
 unfold stErr
 rw [List.getElem?_eq_getElem h]
theorem size0_iff (s:ByteArray):s.size = 0 ↔ s.toList = []:=by
 rw [ByteArray.toList_eq]
 constructor
 ·intro h;exact List.eq_nil_of_length_eq_zero (by simpa using h)
 ·intro h;have:=congrArg List.length h;simpa using this
def SzSt (ss:List StD):Prop:=∀ s ∈ ss,s.text.size ≤ 1000000 ∧ s.purp.size ≤ 1000000 ∧ s.region.size ≤ 1000000
set_option maxHeartbeats 4000000 in
set_option maxRecDepth 100000 in
theorem check_any (H:Frz) (hM:MLen H) (A:Option Addr) (cap:Nat) (ps:List PurD) (A2:Option Addr) (cap2:Nat) (ss:List StD) (w:World) (hH:H.In w) (hP:PolIn H A ps) (hl:ps.length ≤ 1000000) (hR:Rw H A2 8 fSt ss) (hl2:ss.length ≤ 1000000) (hsz:SzSt ss) :
  Calls Tryz.prog 23 #[.slice A ps.length cap,.slice A2 ss.length cap2] w fun e w' => e = .returned (.int .i64 (sayErr idErr ps ss)) ∧ Below w.heap.size w w':=by
 have HCP:=Lib.hid (checkPolicy_any H A cap ps w hH hP hl)
 have HV:Hid (sayErr idErr ps ss = if polErr ps ≠ 0 then polErr ps else if 3000 < ss.length then 2 else fstErr (stErr idErr ps ss) ss.length):=rfl
 have HPO:=Lib.hid (fun (h0:polErr ps = 0) name W (hW:H.In W) => purposeOf_any H A cap ps name W hW hP (pol_right h0).1 hl)
 have HCI:=Lib.hid (fun kind s W (hW:H.In W) hs => checkId_any H hM kind s W hW hs)
 have HR:=Lib.hid hR
 have HH:=Lib.hid hH
 have HS:=Lib.hid hsz
 clear hP hR hH hsz
 generalize polErr ps = pe at HCP HV HPO
 go_enter Tryz.func23,Tryz.ntmps23
 go_wp2_with fail
 refine HCP.out.mono ?_
 rintro e w1 ⟨rfl,hb1⟩
 have HB1:=Lib.hid hb1
 have HIN1:=Lib.hid (HH.out.below hb1)
 clear hb1 HCP
 by_cases hpe:pe = 0
 ·have k0:(pe != 0) = false:=by simpa using hpe
  have HV1:=Lib.hid (HV.out.trans (if_neg (by simpa using hpe)))
  have HPO1:=Lib.hid (HPO.out hpe)
  clear hpe HV HPO
  by_cases hlong:3000 < ss.length
  ·have h2:decide ((3000:Int) < ss.length) = true:=by simp;omega
   have hv:=Lib.hid (HV1.out.trans (if_pos hlong))
   clear hlong
   go_wp2_with fail
   go_ret
   exact ⟨ret_int hv.out.symm,HB1.out⟩
  ·have h2:decide ((3000:Int) < ss.length) = false:=by simp;omega
   have HV2:=Lib.hid (HV1.out.trans (if_neg hlong))
   clear hlong HV1
   have HB0:Hid (Below w1.heap.size w1 w1):=Below.refl _ _
   go_wp2_with fail
   go_loopw [6,21] (fun _ t wr => ∃ i:Nat,i ≤ ss.length ∧ t = .int .i64 i ∧ Hid (fstErr (stErr idErr ps ss) i = 0) ∧ Hid (Below w1.heap.size w1 wr)) (fun _ t _ => ss.length - (intOf t).toNat)
   case atStart => exact ⟨0,by omega,rfl,rfl,HB0⟩
   case round =>
    obtain ⟨i,hi,rfl,h0,hb⟩:=hrel
    clear HB0
    have hbw:=Lib.hid (HB1.out.trans (hb.out.mono HB1.out.size))
    by_cases hlt:i < ss.length
    ·have hin:=HIN1.out.below hb.out
     obtain ⟨b,off,hA,hbl,hc⟩:=HR.out.at_ hin hlt (by omega)
     have hprev:Hid (∀ p,i = p + 1 → ∀ W',Below wr.heap.size wr W' → W'.cell? ⟨b,off + p * 8,none⟩ = some (.int .i64 (ss.getD (i - 1) ss[i]).no)):=by
      rintro p rfl W' hW'
      have hp:p < ss.length:=by omega
      obtain ⟨b',off',hA',hbl',hc'⟩:=HR.out.at_ hin hp (by omega)
      rw [hA] at hA'
      simp only [Option.some.injEq,Addr.mk.injEq] at hA'
      obtain ⟨rfl,rfl,_⟩:=hA'
      rw [Nat.add_sub_cancel,List.getD_eq_getElem?_getD,List.getElem?_eq_getElem hp,Option.getD_some]
      exact lift_below (hc' 0 (by omega)) hW'
     subst hA
     have c0:wr.cell? ⟨b,off + i * 8,none⟩ = some (.int .i64 ss[i].no):=hc 0 (by omega)
     have c1:wr.cell? ⟨b,off + i * 8 + 1,none⟩ = some (.int .i64 ss[i].at_):=hc 1 (by omega)
     have c2:wr.cell? ⟨b,off + i * 8 + 2,none⟩ = some (.int .i64 ss[i].kind):=hc 2 (by omega)
     have c3:wr.cell? ⟨b,off + i * 8 + 3,none⟩ = some (.string ss[i].text):=hc 3 (by omega)
     have c4:wr.cell? ⟨b,off + i * 8 + 4,none⟩ = some (.string ss[i].purp):=hc 4 (by omega)
     have c5:wr.cell? ⟨b,off + i * 8 + 5,none⟩ = some (.string ss[i].region):=hc 5 (by omega)
     have c6:wr.cell? ⟨b,off + i * 8 + 6,none⟩ = some (.int .i64 ss[i].ch):=hc 6 (by omega)
     have c7:wr.cell? ⟨b,off + i * 8 + 7,none⟩ = some (.int .i64 ss[i].what):=hc 7 (by omega)
     have HAT:=Lib.hid (stErr_at idErr (ps:=ps) hlt)
     have HBAD:Hid (∀ n,stErr idErr ps ss i = n → n ≠ 0 → sayErr idErr ps ss = n):=fun n h1 h2 => HV2.out.trans ((fstErr_bad hlt h0.out (by rw [h1];exact h2)).trans h1)
     have HNX:Hid (stErr idErr ps ss i = 0 → fstErr (stErr idErr ps ss) (i + 1) = 0):=fun h1 => fstErr_next h0.out h1
     have hks:=HS.out _ (List.getElem_mem hlt)
     clear hc
     generalize (ss.getD (i - 1) ss[i]).no = pn at *
     generalize ss[i] = d at *
     have z0:(wr.alloc (.cells #[.int .i64 d.no,.int .i64 d.at_,.int .i64 d.kind,.string d.text,.string d.purp,.string d.region,.int .i64 d.ch,.int .i64 d.what] 53)).cell? ⟨wr.heap.size,0,none⟩ = some (.int .i64 d.no):=newc 0 rfl
     have z1:(wr.alloc (.cells #[.int .i64 d.no,.int .i64 d.at_,.int .i64 d.kind,.string d.text,.string d.purp,.string d.region,.int .i64 d.ch,.int .i64 d.what] 53)).cell? ⟨wr.heap.size,1,none⟩ = some (.int .i64 d.at_):=newc 1 rfl
     have z2:(wr.alloc (.cells #[.int .i64 d.no,.int .i64 d.at_,.int .i64 d.kind,.string d.text,.string d.purp,.string d.region,.int .i64 d.ch,.int .i64 d.what] 53)).cell? ⟨wr.heap.size,2,none⟩ = some (.int .i64 d.kind):=newc 2 rfl
     have z3:(wr.alloc (.cells #[.int .i64 d.no,.int .i64 d.at_,.int .i64 d.kind,.string d.text,.string d.purp,.string d.region,.int .i64 d.ch,.int .i64 d.what] 53)).cell? ⟨wr.heap.size,3,none⟩ = some (.string d.text):=newc 3 rfl
     have z4:(wr.alloc (.cells #[.int .i64 d.no,.int .i64 d.at_,.int .i64 d.kind,.string d.text,.string d.purp,.string d.region,.int .i64 d.ch,.int .i64 d.what] 53)).cell? ⟨wr.heap.size,4,none⟩ = some (.string d.purp):=newc 4 rfl
     have z5:(wr.alloc (.cells #[.int .i64 d.no,.int .i64 d.at_,.int .i64 d.kind,.string d.text,.string d.purp,.string d.region,.int .i64 d.ch,.int .i64 d.what] 53)).cell? ⟨wr.heap.size,5,none⟩ = some (.string d.region):=newc 5 rfl
     have z6:(wr.alloc (.cells #[.int .i64 d.no,.int .i64 d.at_,.int .i64 d.kind,.string d.text,.string d.purp,.string d.region,.int .i64 d.ch,.int .i64 d.what] 53)).cell? ⟨wr.heap.size,6,none⟩ = some (.int .i64 d.ch):=newc 6 rfl
     have z7:(wr.alloc (.cells #[.int .i64 d.no,.int .i64 d.at_,.int .i64 d.kind,.string d.text,.string d.purp,.string d.region,.int .i64 d.ch,.int .i64 d.what] 53)).cell? ⟨wr.heap.size,7,none⟩ = some (.int .i64 d.what):=newc 7 rfl
     have HBN:=Lib.hid (new1 (w:=wr) (.cells #[.int .i64 d.no,.int .i64 d.at_,.int .i64 d.kind,.string d.text,.string d.purp,.string d.region,.int .i64 d.ch,.int .i64 d.what] 53))
     have hkd:=heap_alloc_new wr (.cells #[.int .i64 d.no,.int .i64 d.at_,.int .i64 d.kind,.string d.text,.string d.purp,.string d.region,.int .i64 d.ch,.int .i64 d.what] 53)
     go_upto_region 9 with (fail)
     clear c0 c1 c2 c3 c4 c5 c6 c7
     generalize wr.alloc (.cells #[.int .i64 d.no,.int .i64 d.at_,.int .i64 d.kind,.string d.text,.string d.purp,.string d.region,.int .i64 d.ch,.int .i64 d.what] 53) = W1 at *
     have HKD:=Lib.hid hkd
     have HB2:=Lib.hid (hb.out.trans (HBN.out.mono hb.out.size))
     have HBW2:=Lib.hid (hbw.out.trans (HBN.out.mono hbw.out.size))
     have HBN2:=Lib.hid HBN.out
     have HIN2:=Lib.hid (hin.below HBN.out)
     clear hb hbw h0 HBN hin hkd
     go_wp2_with fail
     refine (cwithin_any _ _ _ _).mono ?_
     rintro e w' ⟨rfl,rfl⟩
     by_cases g1:1 ≤ d.no ∧ d.no ≤ 1000000
     ·rw [show (decide ((1:Int) ≤ d.no) && decide (d.no ≤ 1000000)) = true by simp;omega]
      have HA1:=Lib.hid (HAT.out.trans (if_neg (by simpa using g1)))
      clear g1 HAT
      have hcase:i = 0 ∨ ∃ p,i = p + 1:=by cases i with
       | zero => exact Or.inl rfl
       | succ p => exact Or.inr ⟨p,rfl⟩
      rcases hcase with h0 | ⟨p,hp⟩
      ·have d2:decide ((0:Int) < (i:Int)) = false:=by simp;omega
       have d1:decide (0 < i) = false:=by simp;omega
       have HA2:=Lib.hid (HA1.out.trans (if_neg (by omega)))
       clear h0 HA1
       go_upto_region 11 with (fail)
       go_quiet (fail)
       have HKD3:Hid ((W1.drewN nq).heap[wr.heap.size]? = some (.cells #[.int .i64 d.no,.int .i64 d.at_,.int .i64 d.kind,.string d.text,.string d.purp,.string d.region,.int .i64 d.ch,.int .i64 d.what] 53)):=HKD.out
       have HIN3:Hid (H.In (W1.drewN nq)):=HIN2.out.drewN nq
       have HB3:=Lib.hid (below_drewN HB2.out nq)
       have HBW3:=Lib.hid (below_drewN HBW2.out nq)
       clear z0 z1 z2 z3 z4 z5 z6 z7 HKD HIN2 HB2 HBW2 HBN2
       generalize W1.drewN nq = W3 at *
       have hk3:=HKD3.out
       have z0:W3.cell? ⟨wr.heap.size,0,none⟩ = some (.int .i64 d.no):=cell_h hk3 0 rfl
       have zf0:=froz_h hk3 0
       have z1:W3.cell? ⟨wr.heap.size,1,none⟩ = some (.int .i64 d.at_):=cell_h hk3 1 rfl
       have zf1:=froz_h hk3 1
       have z2:W3.cell? ⟨wr.heap.size,2,none⟩ = some (.int .i64 d.kind):=cell_h hk3 2 rfl
       have zf2:=froz_h hk3 2
       have z3:W3.cell? ⟨wr.heap.size,3,none⟩ = some (.string d.text):=cell_h hk3 3 rfl
       have zf3:=froz_h hk3 3
       have z4:W3.cell? ⟨wr.heap.size,4,none⟩ = some (.string d.purp):=cell_h hk3 4 rfl
       have zf4:=froz_h hk3 4
       have z5:W3.cell? ⟨wr.heap.size,5,none⟩ = some (.string d.region):=cell_h hk3 5 rfl
       have zf5:=froz_h hk3 5
       have z6:W3.cell? ⟨wr.heap.size,6,none⟩ = some (.int .i64 d.ch):=cell_h hk3 6 rfl
       have zf6:=froz_h hk3 6
       have z7:W3.cell? ⟨wr.heap.size,7,none⟩ = some (.int .i64 d.what):=cell_h hk3 7 rfl
       have zf7:=froz_h hk3 7
       clear hk3
       go_wp2_with fail
       refine (cwithin_any _ _ _ _).mono ?_
       rintro e w' ⟨rfl,rfl⟩
       by_cases g2:0 ≤ d.at_ ∧ d.at_ ≤ 4321439
       ·rw [show (decide ((0:Int) ≤ d.at_) && decide (d.at_ ≤ 4321439)) = true by simp;omega]
        have HA3:=Lib.hid (HA2.out.trans (if_neg (by simpa using g2)))
        clear g2 HA2
        go_wp2_with fail
        refine (HCI.out d.kind d.text _ HIN3.out hks.1).mono ?_
        rintro e W4 ⟨rfl,hb4⟩
        have HKD4:=Lib.hid ((hb4.block _ (lt_of_heap HKD3.out)).trans HKD3.out)
        have HIN4:=Lib.hid (HIN3.out.below hb4)
        have HB4:=Lib.hid (HB3.out.trans (hb4.mono HB3.out.size))
        have HBW4:=Lib.hid (HBW3.out.trans (hb4.mono HBW3.out.size))
        clear z0 z1 z2 z3 z4 z5 z6 z7 zf0 zf1 zf2 zf3 zf4 zf5 zf6 zf7 HKD3 HIN3 HB3 HBW3 hb4
        have hk4:=HKD4.out
        have z0:W4.cell? ⟨wr.heap.size,0,none⟩ = some (.int .i64 d.no):=cell_h hk4 0 rfl
        have zf0:=froz_h hk4 0
        have z1:W4.cell? ⟨wr.heap.size,1,none⟩ = some (.int .i64 d.at_):=cell_h hk4 1 rfl
        have zf1:=froz_h hk4 1
        have z2:W4.cell? ⟨wr.heap.size,2,none⟩ = some (.int .i64 d.kind):=cell_h hk4 2 rfl
        have zf2:=froz_h hk4 2
        have z3:W4.cell? ⟨wr.heap.size,3,none⟩ = some (.string d.text):=cell_h hk4 3 rfl
        have zf3:=froz_h hk4 3
        have z4:W4.cell? ⟨wr.heap.size,4,none⟩ = some (.string d.purp):=cell_h hk4 4 rfl
        have zf4:=froz_h hk4 4
        have z5:W4.cell? ⟨wr.heap.size,5,none⟩ = some (.string d.region):=cell_h hk4 5 rfl
        have zf5:=froz_h hk4 5
        have z6:W4.cell? ⟨wr.heap.size,6,none⟩ = some (.int .i64 d.ch):=cell_h hk4 6 rfl
        have zf6:=froz_h hk4 6
        have z7:W4.cell? ⟨wr.heap.size,7,none⟩ = some (.int .i64 d.what):=cell_h hk4 7 rfl
        have zf7:=froz_h hk4 7
        clear hk4
        generalize idErr d.kind d.text = ie at HA3 ⊢
        by_cases g3:ie = 0
        ·have k3:(ie != 0) = false:=by simpa using g3
         have HA4:=Lib.hid (HA3.out.trans (if_neg (by simpa using g3)))
         clear g3 HA3
         go_wp2_with fail
         refine (HPO1.out d.purp _ HIN4.out).mono ?_
         rintro e W5 ⟨rfl,hb5⟩
         have HPV:Hid (∃ nm sl,purV (purF ps d.purp) = .agg #[.string nm,sl] ∧ sl.oneCell' = true):=by
          show ∃ _,_
          cases purF ps d.purp with
          | none => exact ⟨_,_,rfl,rfl⟩
          | some p => exact ⟨_,_,rfl,rfl⟩
         obtain ⟨nm,sl,hpv,hpo⟩:=HPV.out
         rw [hpv]
         have HSN:Hid ((purF ps d.purp).isSome = !(purF ps d.purp).isNone):=by show _ = _;cases purF ps d.purp <;> rfl
         generalize (purF ps d.purp).isNone = nn at HA4 HSN
         generalize (purF ps d.purp).isSome = hs at HSN ⊢
         have HKD5:=Lib.hid ((hb5.block _ (lt_of_heap HKD4.out)).trans HKD4.out)
         have HB5:=Lib.hid (HB4.out.trans (hb5.mono HB4.out.size))
         have HBW5:=Lib.hid (HBW4.out.trans (hb5.mono HBW4.out.size))
         have HKD6:=Lib.hid ((heap_lt (o:=.cells #[.string nm,sl] 66) (lt_of_heap HKD5.out)).trans HKD5.out)
         have HB6:=Lib.hid (HB5.out.alloc HB5.out.size (.cells #[.string nm,sl] 66))
         have HBW6:=Lib.hid (HBW5.out.alloc HBW5.out.size (.cells #[.string nm,sl] 66))
         have hst:∀ (ad:Addr) (mo:Mode) (W:World),Sem.run Tryz.prog (store ad sl mo) W = stored Tryz.prog W ad sl mo:=fun ad mo W => run_store _ W ad _ mo hpo
         clear z0 z1 z2 z3 z4 z5 z6 z7 zf0 zf1 zf2 zf3 zf4 zf5 zf6 zf7 HKD4 HIN4 HB4 HBW4 hb5 HPV hpv hpo HKD5 HB5 HBW5
         go_upto_region 19 with (fail)
         generalize W5.alloc (.cells #[.string nm,sl] 66) = W6 at *
         have hk6:=HKD6.out
         have z0:W6.cell? ⟨wr.heap.size,0,none⟩ = some (.int .i64 d.no):=cell_h hk6 0 rfl
         have zf0:=froz_h hk6 0
         have z1:W6.cell? ⟨wr.heap.size,1,none⟩ = some (.int .i64 d.at_):=cell_h hk6 1 rfl
         have zf1:=froz_h hk6 1
         have z2:W6.cell? ⟨wr.heap.size,2,none⟩ = some (.int .i64 d.kind):=cell_h hk6 2 rfl
         have zf2:=froz_h hk6 2
         have z3:W6.cell? ⟨wr.heap.size,3,none⟩ = some (.string d.text):=cell_h hk6 3 rfl
         have zf3:=froz_h hk6 3
         have z4:W6.cell? ⟨wr.heap.size,4,none⟩ = some (.string d.purp):=cell_h hk6 4 rfl
         have zf4:=froz_h hk6 4
         have z5:W6.cell? ⟨wr.heap.size,5,none⟩ = some (.string d.region):=cell_h hk6 5 rfl
         have zf5:=froz_h hk6 5
         have z6:W6.cell? ⟨wr.heap.size,6,none⟩ = some (.int .i64 d.ch):=cell_h hk6 6 rfl
         have zf6:=froz_h hk6 6
         have z7:W6.cell? ⟨wr.heap.size,7,none⟩ = some (.int .i64 d.what):=cell_h hk6 7 rfl
         have zf7:=froz_h hk6 7
         clear hk6 hst
         go_wp2_with fail
         refine (isChannel_any d.ch _).mono ?_
         rintro e w' ⟨rfl,rfl⟩
         generalize chB d.ch = c1 at HA4 ⊢
         cases c1 with
         | false =>
          have hv:=Lib.hid (HBAD.out 4 (HA4.out.trans (if_pos (by simp))) (by omega))
          go_wp2_with fail
          go_ret
          exact ⟨ret_int hv.out.symm,HBW6.out⟩
         | true =>
          go_wp2_with fail
          refine (cwithin_any _ _ _ _).mono ?_
          rintro e w' ⟨rfl,rfl⟩
          by_cases g5:1 ≤ d.what ∧ d.what ≤ 5
          ·rw [show (decide ((1:Int) ≤ d.what) && decide (d.what ≤ 5)) = true by simp;omega]
           have HA5:=Lib.hid (HA4.out.trans (if_neg (by simpa using g5)))
           clear g5 HA4
           go_wp2_with fail
           refine (ofChannel_any d.what _).mono ?_
           rintro e w' ⟨rfl,rfl⟩
           have HOF:=Lib.hid (fun W => ofChannel_any d.what W)
           generalize ofCh d.what = oc at HA5 HOF ⊢
           cases oc with
           | true =>
            by_cases hp0:d.purp.size = 0
            ·have HA6:=Lib.hid (HA5.out.trans (if_neg (fun c => c.2 hp0)))
             have HA8:=Lib.hid (HA6.out.trans (if_neg (fun c => by cases c.1)))
             have k5:d.purp.toList.isEmpty = true:=by rw [(size0_iff _).1 hp0];rfl
             have k6:(d.purp.toList == []) = true:=by simpa using k5
             have k7:d.purp.toList = []:=by simpa using k5
             clear hp0 HA5 HA6
             go_wp2_with fail
             refine (HOF.out _).mono ?_
             rintro e w' ⟨rfl,rfl⟩
             clear k5 k6 k7
             go_wp2_with fail
             refine (isKey_any d.region _ (by omega)).mono ?_
             rintro e w' ⟨rfl,rfl⟩
             generalize isKey d.region = kr at HA8 ⊢
             cases kr with
             | false =>
              have hv:=Lib.hid (HBAD.out 5 (HA8.out.trans (if_pos rfl)) (by omega))
              go_wp2_with fail
              go_ret
              exact ⟨ret_int hv.out.symm,HBW6.out⟩
             | true =>
              have hok:=Lib.hid (HNX.out (HA8.out.trans (if_neg (by simp))))
              go_wp2_with fail
              go_roundw
              case rel => exact ⟨i + 1,by omega,by go_num,hok,HB6⟩
              case measure => simp [intOf];omega
            ·have hv:=Lib.hid (HBAD.out 3 (HA5.out.trans (if_pos ⟨rfl,hp0⟩)) (by omega))
             have k5:d.purp.toList.isEmpty = false:=by rw [← Bool.not_eq_true];intro c;exact hp0 ((size0_iff _).2 (List.isEmpty_iff.1 c))
             have k6:(d.purp.toList == []) = false:=by
              cases h9:d.purp.toList with
              | nil => rw [h9] at k5;cases k5
              | cons a l => rfl
             clear hp0
             go_wp2_with fail
             go_ret
             exact ⟨ret_int hv.out.symm,HBW6.out⟩
           | false =>
            have HA6:=Lib.hid (HA5.out.trans (if_neg (fun c => by cases c.1)))
            clear HA5
            go_wp2_with fail
            refine (HOF.out _).mono ?_
            rintro e w' ⟨rfl,rfl⟩
            cases nn with
            | true =>
             have hv:=Lib.hid (HBAD.out 8 (HA6.out.trans (if_pos (by simp))) (by omega))
             obtain rfl:=HSN.out
             go_wp2_with fail
             go_ret
             exact ⟨ret_int hv.out.symm,HBW6.out⟩
            | false =>
             have HA8:=Lib.hid (HA6.out.trans (if_neg (fun c => by cases c.2)))
             obtain rfl:=HSN.out
             go_wp2_with fail
             refine (isKey_any d.region _ (by omega)).mono ?_
             rintro e w' ⟨rfl,rfl⟩
             generalize isKey d.region = kr at HA8 ⊢
             cases kr with
             | false =>
              have hv:=Lib.hid (HBAD.out 5 (HA8.out.trans (if_pos rfl)) (by omega))
              go_wp2_with fail
              go_ret
              exact ⟨ret_int hv.out.symm,HBW6.out⟩
             | true =>
              have hok:=Lib.hid (HNX.out (HA8.out.trans (if_neg (by simp))))
              go_wp2_with fail
              go_roundw
              case rel => exact ⟨i + 1,by omega,by go_num,hok,HB6⟩
              case measure => simp [intOf];omega
          ·rw [show (decide ((1:Int) ≤ d.what) && decide (d.what ≤ 5)) = false by simp;omega]
           have hv:=Lib.hid (HBAD.out 4 (HA4.out.trans (if_pos (fun c => g5 c.2))) (by omega))
           clear g5
           go_wp2_with fail
           go_ret
           exact ⟨ret_int hv.out.symm,HBW6.out⟩
        ·have k3:(ie != 0) = true:=by simpa using g3
         have hv:=Lib.hid (HBAD.out ie (HA3.out.trans (if_pos g3)) g3)
         clear g3
         go_wp2_with fail
         go_ret
         exact ⟨ret_int hv.out.symm,HBW4.out⟩
       ·rw [show (decide ((0:Int) ≤ d.at_) && decide (d.at_ ≤ 4321439)) = false by simp;omega]
        have hv:=Lib.hid (HBAD.out 1 (HA2.out.trans (if_pos g2)) (by omega))
        clear g2
        go_wp2_with fail
        go_ret
        exact ⟨ret_int hv.out.symm,HBW3.out⟩
      ·have q3:=hprev.out p hp W1 HBN2.out
       have d2:decide ((0:Int) < (i:Int)) = true:=by simp;omega
       have d1:decide (0 < i) = true:=by simp;omega
       have a1:IntKind.i64.wrap ((i:Int) - 1) = (p:Int):=by rw [show (i:Int) - 1 = p from by omega];exact IntWalk.i64_in _ (by omega)
       have a2:(i:Int) - 1 = (p:Int):=by omega
       have a3:(p:Int) < ss.length:=by omega
       have a4:(0:Int) ≤ (p:Int):=by omega
       have a5:p < ss.length:=by omega
       have HPOS:Hid (0 < i):=by show 0 < i;omega
       clear hp
       by_cases hle:d.no ≤ pn
       ·have e1:decide (d.no ≤ pn) = true:=by simpa using hle
        have hv:=Lib.hid (HBAD.out 7 (HA1.out.trans (if_pos ⟨HPOS.out,hle⟩)) (by omega))
        clear hle
        go_upto_region 11 with (fail)
        go_quiet (fail)
        have HBW3:=Lib.hid (below_drewN HBW2.out nq)
        go_wp2_with fail
        go_ret
        exact ⟨ret_int hv.out.symm,HBW3.out⟩
       ·have e1:decide (d.no ≤ pn) = false:=by simpa using hle
        have HA2:=Lib.hid (HA1.out.trans (if_neg (fun c => hle c.2)))
        clear hle HA1
        go_upto_region 11 with (fail)
        go_quiet (fail)
        have HKD3:Hid ((W1.drewN nq).heap[wr.heap.size]? = some (.cells #[.int .i64 d.no,.int .i64 d.at_,.int .i64 d.kind,.string d.text,.string d.purp,.string d.region,.int .i64 d.ch,.int .i64 d.what] 53)):=HKD.out
        have HIN3:Hid (H.In (W1.drewN nq)):=HIN2.out.drewN nq
        have HB3:=Lib.hid (below_drewN HB2.out nq)
        have HBW3:=Lib.hid (below_drewN HBW2.out nq)
        clear q3 a1 a2 a3 a4 a5 z0 z1 z2 z3 z4 z5 z6 z7 HKD HIN2 HB2 HBW2 HBN2
        generalize W1.drewN nq = W3 at *
        have hk3:=HKD3.out
        have z0:W3.cell? ⟨wr.heap.size,0,none⟩ = some (.int .i64 d.no):=cell_h hk3 0 rfl
        have zf0:=froz_h hk3 0
        have z1:W3.cell? ⟨wr.heap.size,1,none⟩ = some (.int .i64 d.at_):=cell_h hk3 1 rfl
        have zf1:=froz_h hk3 1
        have z2:W3.cell? ⟨wr.heap.size,2,none⟩ = some (.int .i64 d.kind):=cell_h hk3 2 rfl
        have zf2:=froz_h hk3 2
        have z3:W3.cell? ⟨wr.heap.size,3,none⟩ = some (.string d.text):=cell_h hk3 3 rfl
        have zf3:=froz_h hk3 3
        have z4:W3.cell? ⟨wr.heap.size,4,none⟩ = some (.string d.purp):=cell_h hk3 4 rfl
        have zf4:=froz_h hk3 4
        have z5:W3.cell? ⟨wr.heap.size,5,none⟩ = some (.string d.region):=cell_h hk3 5 rfl
        have zf5:=froz_h hk3 5
        have z6:W3.cell? ⟨wr.heap.size,6,none⟩ = some (.int .i64 d.ch):=cell_h hk3 6 rfl
        have zf6:=froz_h hk3 6
        have z7:W3.cell? ⟨wr.heap.size,7,none⟩ = some (.int .i64 d.what):=cell_h hk3 7 rfl
        have zf7:=froz_h hk3 7
        clear hk3
        go_wp2_with fail
        refine (cwithin_any _ _ _ _).mono ?_
        rintro e w' ⟨rfl,rfl⟩
        by_cases g2:0 ≤ d.at_ ∧ d.at_ ≤ 4321439
        ·rw [show (decide ((0:Int) ≤ d.at_) && decide (d.at_ ≤ 4321439)) = true by simp;omega]
         have HA3:=Lib.hid (HA2.out.trans (if_neg (by simpa using g2)))
         clear g2 HA2
         go_wp2_with fail
         refine (HCI.out d.kind d.text _ HIN3.out hks.1).mono ?_
         rintro e W4 ⟨rfl,hb4⟩
         have HKD4:=Lib.hid ((hb4.block _ (lt_of_heap HKD3.out)).trans HKD3.out)
         have HIN4:=Lib.hid (HIN3.out.below hb4)
         have HB4:=Lib.hid (HB3.out.trans (hb4.mono HB3.out.size))
         have HBW4:=Lib.hid (HBW3.out.trans (hb4.mono HBW3.out.size))
         clear z0 z1 z2 z3 z4 z5 z6 z7 zf0 zf1 zf2 zf3 zf4 zf5 zf6 zf7 HKD3 HIN3 HB3 HBW3 hb4
         have hk4:=HKD4.out
         have z0:W4.cell? ⟨wr.heap.size,0,none⟩ = some (.int .i64 d.no):=cell_h hk4 0 rfl
         have zf0:=froz_h hk4 0
         have z1:W4.cell? ⟨wr.heap.size,1,none⟩ = some (.int .i64 d.at_):=cell_h hk4 1 rfl
         have zf1:=froz_h hk4 1
         have z2:W4.cell? ⟨wr.heap.size,2,none⟩ = some (.int .i64 d.kind):=cell_h hk4 2 rfl
         have zf2:=froz_h hk4 2
         have z3:W4.cell? ⟨wr.heap.size,3,none⟩ = some (.string d.text):=cell_h hk4 3 rfl
         have zf3:=froz_h hk4 3
         have z4:W4.cell? ⟨wr.heap.size,4,none⟩ = some (.string d.purp):=cell_h hk4 4 rfl
         have zf4:=froz_h hk4 4
         have z5:W4.cell? ⟨wr.heap.size,5,none⟩ = some (.string d.region):=cell_h hk4 5 rfl
         have zf5:=froz_h hk4 5
         have z6:W4.cell? ⟨wr.heap.size,6,none⟩ = some (.int .i64 d.ch):=cell_h hk4 6 rfl
         have zf6:=froz_h hk4 6
         have z7:W4.cell? ⟨wr.heap.size,7,none⟩ = some (.int .i64 d.what):=cell_h hk4 7 rfl
         have zf7:=froz_h hk4 7
         clear hk4
         generalize idErr d.kind d.text = ie at HA3 ⊢
         by_cases g3:ie = 0
         ·have k3:(ie != 0) = false:=by simpa using g3
          have HA4:=Lib.hid (HA3.out.trans (if_neg (by simpa using g3)))
          clear g3 HA3
          go_wp2_with fail
          refine (HPO1.out d.purp _ HIN4.out).mono ?_
          rintro e W5 ⟨rfl,hb5⟩
          have HPV:Hid (∃ nm sl,purV (purF ps d.purp) = .agg #[.string nm,sl] ∧ sl.oneCell' = true):=by
           show ∃ _,_
           cases purF ps d.purp with
           | none => exact ⟨_,_,rfl,rfl⟩
           | some p => exact ⟨_,_,rfl,rfl⟩
          obtain ⟨nm,sl,hpv,hpo⟩:=HPV.out
          rw [hpv]
          have HSN:Hid ((purF ps d.purp).isSome = !(purF ps d.purp).isNone):=by show _ = _;cases purF ps d.purp <;> rfl
          generalize (purF ps d.purp).isNone = nn at HA4 HSN
          generalize (purF ps d.purp).isSome = hs at HSN ⊢
          have HKD5:=Lib.hid ((hb5.block _ (lt_of_heap HKD4.out)).trans HKD4.out)
          have HB5:=Lib.hid (HB4.out.trans (hb5.mono HB4.out.size))
          have HBW5:=Lib.hid (HBW4.out.trans (hb5.mono HBW4.out.size))
          have HKD6:=Lib.hid ((heap_lt (o:=.cells #[.string nm,sl] 66) (lt_of_heap HKD5.out)).trans HKD5.out)
          have HB6:=Lib.hid (HB5.out.alloc HB5.out.size (.cells #[.string nm,sl] 66))
          have HBW6:=Lib.hid (HBW5.out.alloc HBW5.out.size (.cells #[.string nm,sl] 66))
          have hst:∀ (ad:Addr) (mo:Mode) (W:World),Sem.run Tryz.prog (store ad sl mo) W = stored Tryz.prog W ad sl mo:=fun ad mo W => run_store _ W ad _ mo hpo
          clear z0 z1 z2 z3 z4 z5 z6 z7 zf0 zf1 zf2 zf3 zf4 zf5 zf6 zf7 HKD4 HIN4 HB4 HBW4 hb5 HPV hpv hpo HKD5 HB5 HBW5
          go_upto_region 19 with (fail)
          generalize W5.alloc (.cells #[.string nm,sl] 66) = W6 at *
          have hk6:=HKD6.out
          have z0:W6.cell? ⟨wr.heap.size,0,none⟩ = some (.int .i64 d.no):=cell_h hk6 0 rfl
          have zf0:=froz_h hk6 0
          have z1:W6.cell? ⟨wr.heap.size,1,none⟩ = some (.int .i64 d.at_):=cell_h hk6 1 rfl
          have zf1:=froz_h hk6 1
          have z2:W6.cell? ⟨wr.heap.size,2,none⟩ = some (.int .i64 d.kind):=cell_h hk6 2 rfl
          have zf2:=froz_h hk6 2
          have z3:W6.cell? ⟨wr.heap.size,3,none⟩ = some (.string d.text):=cell_h hk6 3 rfl
          have zf3:=froz_h hk6 3
          have z4:W6.cell? ⟨wr.heap.size,4,none⟩ = some (.string d.purp):=cell_h hk6 4 rfl
          have zf4:=froz_h hk6 4
          have z5:W6.cell? ⟨wr.heap.size,5,none⟩ = some (.string d.region):=cell_h hk6 5 rfl
          have zf5:=froz_h hk6 5
          have z6:W6.cell? ⟨wr.heap.size,6,none⟩ = some (.int .i64 d.ch):=cell_h hk6 6 rfl
          have zf6:=froz_h hk6 6
          have z7:W6.cell? ⟨wr.heap.size,7,none⟩ = some (.int .i64 d.what):=cell_h hk6 7 rfl
          have zf7:=froz_h hk6 7
          clear hk6 hst
          go_wp2_with fail
          refine (isChannel_any d.ch _).mono ?_
          rintro e w' ⟨rfl,rfl⟩
          generalize chB d.ch = c1 at HA4 ⊢
          cases c1 with
          | false =>
           have hv:=Lib.hid (HBAD.out 4 (HA4.out.trans (if_pos (by simp))) (by omega))
           go_wp2_with fail
           go_ret
           exact ⟨ret_int hv.out.symm,HBW6.out⟩
          | true =>
           go_wp2_with fail
           refine (cwithin_any _ _ _ _).mono ?_
           rintro e w' ⟨rfl,rfl⟩
           by_cases g5:1 ≤ d.what ∧ d.what ≤ 5
           ·rw [show (decide ((1:Int) ≤ d.what) && decide (d.what ≤ 5)) = true by simp;omega]
            have HA5:=Lib.hid (HA4.out.trans (if_neg (by simpa using g5)))
            clear g5 HA4
            go_wp2_with fail
            refine (ofChannel_any d.what _).mono ?_
            rintro e w' ⟨rfl,rfl⟩
            have HOF:=Lib.hid (fun W => ofChannel_any d.what W)
            generalize ofCh d.what = oc at HA5 HOF ⊢
            cases oc with
            | true =>
             by_cases hp0:d.purp.size = 0
             ·have HA6:=Lib.hid (HA5.out.trans (if_neg (fun c => c.2 hp0)))
              have HA8:=Lib.hid (HA6.out.trans (if_neg (fun c => by cases c.1)))
              have k5:d.purp.toList.isEmpty = true:=by rw [(size0_iff _).1 hp0];rfl
              have k6:(d.purp.toList == []) = true:=by simpa using k5
              have k7:d.purp.toList = []:=by simpa using k5
              clear hp0 HA5 HA6
              go_wp2_with fail
              refine (HOF.out _).mono ?_
              rintro e w' ⟨rfl,rfl⟩
              clear k5 k6 k7
              go_wp2_with fail
              refine (isKey_any d.region _ (by omega)).mono ?_
              rintro e w' ⟨rfl,rfl⟩
              generalize isKey d.region = kr at HA8 ⊢
              cases kr with
              | false =>
               have hv:=Lib.hid (HBAD.out 5 (HA8.out.trans (if_pos rfl)) (by omega))
               go_wp2_with fail
               go_ret
               exact ⟨ret_int hv.out.symm,HBW6.out⟩
              | true =>
               have hok:=Lib.hid (HNX.out (HA8.out.trans (if_neg (by simp))))
               go_wp2_with fail
               go_roundw
               case rel => exact ⟨i + 1,by omega,by go_num,hok,HB6⟩
               case measure => simp [intOf];omega
             ·have hv:=Lib.hid (HBAD.out 3 (HA5.out.trans (if_pos ⟨rfl,hp0⟩)) (by omega))
              have k5:d.purp.toList.isEmpty = false:=by rw [← Bool.not_eq_true];intro c;exact hp0 ((size0_iff _).2 (List.isEmpty_iff.1 c))
              have k6:(d.purp.toList == []) = false:=by
               cases h9:d.purp.toList with
               | nil => rw [h9] at k5;cases k5
               | cons a l => rfl
              clear hp0
              go_wp2_with fail
              go_ret
              exact ⟨ret_int hv.out.symm,HBW6.out⟩
            | false =>
             have HA6:=Lib.hid (HA5.out.trans (if_neg (fun c => by cases c.1)))
             clear HA5
             go_wp2_with fail
             refine (HOF.out _).mono ?_
             rintro e w' ⟨rfl,rfl⟩
             cases nn with
             | true =>
              have hv:=Lib.hid (HBAD.out 8 (HA6.out.trans (if_pos (by simp))) (by omega))
              obtain rfl:=HSN.out
              go_wp2_with fail
              go_ret
              exact ⟨ret_int hv.out.symm,HBW6.out⟩
             | false =>
              have HA8:=Lib.hid (HA6.out.trans (if_neg (fun c => by cases c.2)))
              obtain rfl:=HSN.out
              go_wp2_with fail
              refine (isKey_any d.region _ (by omega)).mono ?_
              rintro e w' ⟨rfl,rfl⟩
              generalize isKey d.region = kr at HA8 ⊢
              cases kr with
              | false =>
               have hv:=Lib.hid (HBAD.out 5 (HA8.out.trans (if_pos rfl)) (by omega))
               go_wp2_with fail
               go_ret
               exact ⟨ret_int hv.out.symm,HBW6.out⟩
              | true =>
               have hok:=Lib.hid (HNX.out (HA8.out.trans (if_neg (by simp))))
               go_wp2_with fail
               go_roundw
               case rel => exact ⟨i + 1,by omega,by go_num,hok,HB6⟩
               case measure => simp [intOf];omega
           ·rw [show (decide ((1:Int) ≤ d.what) && decide (d.what ≤ 5)) = false by simp;omega]
            have hv:=Lib.hid (HBAD.out 4 (HA4.out.trans (if_pos (fun c => g5 c.2))) (by omega))
            clear g5
            go_wp2_with fail
            go_ret
            exact ⟨ret_int hv.out.symm,HBW6.out⟩
         ·have k3:(ie != 0) = true:=by simpa using g3
          have hv:=Lib.hid (HBAD.out ie (HA3.out.trans (if_pos g3)) g3)
          clear g3
          go_wp2_with fail
          go_ret
          exact ⟨ret_int hv.out.symm,HBW4.out⟩
        ·rw [show (decide ((0:Int) ≤ d.at_) && decide (d.at_ ≤ 4321439)) = false by simp;omega]
         have hv:=Lib.hid (HBAD.out 1 (HA2.out.trans (if_pos g2)) (by omega))
         clear g2
         go_wp2_with fail
         go_ret
         exact ⟨ret_int hv.out.symm,HBW3.out⟩
     ·rw [show (decide ((1:Int) ≤ d.no) && decide (d.no ≤ 1000000)) = false by simp;omega]
      have hv:=Lib.hid (HBAD.out 1 (HAT.out.trans (if_pos g1)) (by omega))
      clear g1
      go_wp2_with fail
      go_ret
      exact ⟨ret_int hv.out.symm,HBW2.out⟩
    ·have hie:i = ss.length:=by omega
     subst hie
     have hv:=Lib.hid (HV2.out.trans h0.out)
     go_wp2_with fail
     go_ret
     exact ⟨ret_int hv.out.symm,hbw.out⟩
 ·have k0:(pe != 0) = true:=by simpa using hpe
  have hv:=Lib.hid (HV.out.trans (if_pos hpe))
  clear hpe
  go_wp2_with fail
  go_ret
  exact ⟨ret_int hv.out.symm,HB1.out⟩
end Go.Proofs.YtcncifmanodabaaGreatDoor
