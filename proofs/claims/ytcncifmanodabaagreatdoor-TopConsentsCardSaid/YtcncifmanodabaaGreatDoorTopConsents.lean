/- Who becomes one person with others may be written to no more than before; who withdraws by one id may be written to by none: the law. -/
import Derived.Test.YtcncifmanodabaaGreatDoorGAU
import Derived.Test.YtcncifmanodabaaGreatDoorGBL
import Derived.Test.YtcncifmanodabaaGreatDoorGAT
import Derived.Test.YtcncifmanodabaaGreatDoorGAQ
import Derived.Test.YtcncifmanodabaaGreatDoorGBK
namespace Go.Proofs.YtcncifmanodabaaGreatDoor
set_option linter.unusedVariables false
open Go.RowKit
theorem meas_step {n l:Nat} (h:l < n):n - (intOf (.int .i64 ((l:Int) + 1))).toNat < n - (intOf (.int .i64 (l:Int))).toNat:=by
 simp [intOf]
 omega
theorem lastNo_le {ss:List StD} {n:Int} (hn:0 ≤ n) (h:∀ s ∈ ss,s.no ≤ n):lastNo ss ≤ n:=by
 unfold lastNo
 split
 ·exact hn
 ·exact h _ (List.getElem_mem _)
def φT (B0 qb pk:Nat) (q:QueD) (pv lv ov iv xv:Value) (ls:List SlD) (a:AnsD) (i:Nat) (v:Value) (w:World):Prop :=
 match i with
 | 0 => v = pv
 | 1 => v = lv
 | 2 => v = ov
 | 3 => ∃ b:Nat,v = .slice (some ⟨b,0,none⟩) 2 2 ∧ B0 ≤ b ∧ w.heap[b]? = some (.cells #[lv,ov] 32 (0,0))
 | 4 => Orow w B0 53 8 fSt v (catF ls)
 | 5 => v = .pointer (some ⟨pk,3,none⟩)
 | 6 => v = iv
 | 7 => v = xv
 | 8 => v = .pointer (some ⟨qb,2,none⟩)
 | 9 => v = .string q.purp
 | 10 => v = .pointer (some ⟨qb,3,none⟩)
 | 11 => v = .string q.region
 | 12 => v = .pointer (some ⟨qb,4,none⟩)
 | 13 => v = .int .i64 q.ch
 | 14 => v = .pointer (some ⟨qb,5,none⟩)
 | 15 => v = .int .i64 q.at_
 | 16 => v = .tuple #[ansV a,.int .i64 0]
 | 17 => v = .tuple #[ansV a,.int .i64 0]
 | 18 => v = ansV a
 | 19 => v = .int .i64 0
 | 20 => BoxP 44 B0 3 v w
 | _ => True
theorem φT_mono {B0 qb pk:Nat} {q:QueD} {pv lv ov iv xv:Value} {ls:List SlD} {a:AnsD} (i:Nat) (x:Value) (w w':World) (e:ET 44 w w') (h:φT B0 qb pk q pv lv ov iv xv ls a i x w):φT B0 qb pk q pv lv ov iv xv ls a i x w':=by
 match i,h with
 | 3,h =>
  obtain ⟨q,h1,h2,h3⟩:=h
  exact ⟨q,h1,h2,e.2.1 q _ h3 (not_isT (by decide))⟩
 | 4,h => exact e.row (by decide) h
 | 20,h => exact BoxP.mono e h
 | 0,h => exact h
 | 1,h => exact h
 | 2,h => exact h
 | 5,h => exact h
 | 6,h => exact h
 | 7,h => exact h
 | 8,h => exact h
 | 9,h => exact h
 | 10,h => exact h
 | 11,h => exact h
 | 12,h => exact h
 | 13,h => exact h
 | 14,h => exact h
 | 15,h => exact h
 | 16,h => exact h
 | 17,h => exact h
 | 18,h => exact h
 | 19,h => exact h
 | 21,h => exact trivial
 | i + 22,h => exact trivial
set_option maxHeartbeats 8000000 in
set_option maxRecDepth 100000 in
theorem topConsents_walk (a0:Option Addr) (len0 cap0:Nat) (z0:List Int) (w:World) (w0:IsRow .i64 w a0 len0 cap0 z0) (hG:GlobP w) :
  Calls Tryz.prog 3 #[.slice a0 len0 cap0] w fun e w' => e = .returned (.bool true) ∧ Below w.heap.size w w':=by
 have L:=Lw.whole w0
 have HG:=Lib.hid hG
 clear hG w0
 go_enter Tryz.func3,Tryz.ntmps3
 go_wp2_with fail
 refine (L.crowd HG.out.pool HG.out.names HG.out.utf HG.out.mlen).mono ?_
 rintro e W1 ⟨H1,A,n,cap,Ab,cb,pb,Aa,ca,pa,ok,rfl,L1,le1,hok,hpb,hpa,hcq⟩
 have HL1:=Lib.hid L1
 have HPB:=Lib.hid hpb
 have HPA:=Lib.hid hpa
 have HCQ:=Lib.hid hcq
 have HPO:=Lib.hid (HG.out.pool.le le1)
 have HML:=Lib.hid (HG.out.mlen.le le1)
 clear L L1 le1 hpb hpa hcq HG
 cases ok with
 | false =>
  have hn0:=hok rfl
  subst hn0
  have HF:=Lib.hid HL1.out.bel
  clear HL1 HPB HPA HCQ HPO HML hok
  go_wp2_with fail
  exact bodyPost_ret (by kernel_rfl) rfl ⟨rfl,HF.out⟩
 | true =>
  clear hok
  go_wp2_with fail
  refine (HL1.out.rightPolicy (by omega)).mono ?_
  rintro e W2 ⟨Ap,capp,ps,H2,rfl,L2,le2,hP,hpe,hp0,hp3,hpc⟩
  have HL2:=Lib.hid L2
  have HP:=Lib.hid hP
  have HPE:=Lib.hid hpe
  have HPB2:=Lib.hid (HPB.out.le le2)
  have HPA2:=Lib.hid (HPA.out.le le2)
  have HPO2:=Lib.hid (HPO.out.le le2)
  have HML2:=Lib.hid (HML.out.le le2)
  clear L2 le2 hP hpe HL1 HPB HPA HPO HML
  go_wp2_with fail
  refine (HL2.out.range 2 14 (by omega) (by omega) (by omega) (by omega)).mono ?_
  rintro e W3 ⟨m,rfl,m1,m2,L3,-,-⟩
  obtain ⟨m,rfl⟩:=Int.eq_ofNat_of_zero_le (show 0 ≤ m by omega)
  have HL3:=Lib.hid L3
  clear L3 HL2
  go_wp2_with fail
  refine (HL3.out.rightStatements (by omega) HPO2.out Ap capp ps HP.out HPE.out hp0 (by omega) m (by omega)).mono ?_
  rintro e W4 ⟨A2,cap2,ss,H4,rfl,L4,le4,hR,hse,hsz,hsl,hsc,hno⟩
  have HL4:=Lib.hid (L4.more (K':=400000) (by omega))
  have HP4:=Lib.hid (HP.out.le le4)
  have HPB4:=Lib.hid (HPB2.out.le le4)
  have HPA4:=Lib.hid (HPA2.out.le le4)
  have HPO4:=Lib.hid (HPO2.out.le le4)
  have HML4:=Lib.hid (HML2.out.le le4)
  have HR4:=Lib.hid hR
  have HSZ:=Lib.hid hsz
  have HNO:Hid (lastNo ss ≤ 900000):=by
   have:=lastNo_le (n:=2 * (m:Int)) (by omega) hno
   show _ ≤ _
   omega
  have hs14:ss.length ≤ 14:=by omega
  clear L4 le4 hR hse hsz hsl hno HL3 HP HPB2 HPA2 HPO2 HML2
  go_wp2_with fail
  refine (HL4.out.question HPO4.out (by omega) Ap capp ps HP4.out hp0 (by omega)).mono ?_
  rintro e W5 ⟨q,rfl,hq,L5,-⟩
  have HQ:=Lib.hid hq
  have HN5:=Lib.hid (new1 (w:=W5) (.cells #[.int .i64 q.kind,.string q.text,.string q.purp,.string q.region,.int .i64 q.ch,.int .i64 q.at_] 38))
  have HQB:=Lib.hid (heap_alloc_new W5 (.cells #[.int .i64 q.kind,.string q.text,.string q.purp,.string q.region,.int .i64 q.ch,.int .i64 q.at_] 38))
  have hin6:H4.In (W5.alloc (.cells #[.int .i64 q.kind,.string q.text,.string q.purp,.string q.region,.int .i64 q.ch,.int .i64 q.at_] 38)):=L5.fin.below HN5.out
  have hle6:H4.Le (wholeH (W5.alloc (.cells #[.int .i64 q.kind,.string q.text,.string q.purp,.string q.region,.int .i64 q.ch,.int .i64 q.at_] 38))):=fun b o h => hin6 b o h
  have HP6:=Lib.hid (HP4.out.le hle6)
  have HPB6:=Lib.hid (HPB4.out.le hle6)
  have HPA6:=Lib.hid (HPA4.out.le hle6)
  have HML6:=Lib.hid (HML4.out.le hle6)
  have HR6:=Lib.hid (HR4.out.le hle6)
  have HB6:=Lib.hid (L5.bel.trans (HN5.out.mono L5.bel.size))
  have hps3:ps.length ≤ 1000:=by omega
  clear hin6 hle6 HP4 HPB4 HPA4 HPO4 HML4 HR4 L5 hq HL4 HN5
  go_upto_region 7 with (fail)
  generalize W5.alloc (.cells #[.int .i64 q.kind,.string q.text,.string q.purp,.string q.region,.int .i64 q.ch,.int .i64 q.at_] 38) = W6 at *
  generalize W5.heap.size = qb at *
  have HQ6:Hid (wholeH W6 qb = some (.cells #[.int .i64 q.kind,.string q.text,.string q.purp,.string q.region,.int .i64 q.ch,.int .i64 q.at_] 38 (0,0))):=HQB.out
  have HIN6:Hid ((wholeH W6).In W6):=wholeH_in W6
  clear HQB
  generalize hH6:wholeH W6 = H6 at *
  clear hH6
  have hpac:pa.length ≤ 1000:=HCQ.out.cntA
  have hpbc:pb.length ≤ 1000:=HCQ.out.cntB
  go_wp2_with fail
  go_loopw [53] (fun t wr => ∃ i:Nat,i ≤ pa.length ∧ t = .int .i64 i ∧ Hid (Below W6.heap.size W6 wr)) (fun t _ => pa.length - (intOf t).toNat)
  case atStart => exact ⟨0,by omega,rfl,Below.refl _ _⟩
  case round =>
   obtain ⟨i,hi,rfl,hb⟩:=hrel
   have hin:=HIN6.out.below hb.out
   by_cases hlt:i < pa.length
   ·obtain ⟨b,off,hA,hbl,hc⟩:=HPA6.out.1.at_ hin hlt (by omega)
    have c0:wr.cell? ⟨b,off + i * 4,none⟩ = some (.int .i64 pa[i].key.kind):=hc 0 (by omega)
    have c1:wr.cell? ⟨b,off + i * 4 + 1,none⟩ = some (.string pa[i].key.text):=hc 1 (by omega)
    have c2:wr.cell? ⟨b,off + i * 4 + 2,none⟩ = some (.slice pa[i].na pa[i].nos.length pa[i].nc):=hc 2 (by omega)
    have c3:wr.cell? ⟨b,off + i * 4 + 3,none⟩ = some (.slice pa[i].ia pa[i].ids.length pa[i].ic):=hc 3 (by omega)
    have HAI:=Lib.hid (HPA6.out.2 _ (List.getElem_mem hlt)).2
    have HVAL:=Lib.hid (HCQ.out.valA _ (List.getElem_mem hlt))
    have halen:=HCQ.out.lenA _ (List.getElem_mem hlt)
    have HSUB:=Lib.hid (fun b hb x hx hx2 => HCQ.out.sub b hb _ (List.getElem_mem hlt) x hx hx2)
    subst hA
    clear hc hbl
    generalize pa[i] = p at *
    have z0:(wr.alloc (.cells #[.int .i64 p.key.kind,.string p.key.text,.slice p.na p.nos.length p.nc,.slice p.ia p.ids.length p.ic] 42)).cell? ⟨wr.heap.size,0,none⟩ = some (.int .i64 p.key.kind):=newc 0 rfl
    have z1:(wr.alloc (.cells #[.int .i64 p.key.kind,.string p.key.text,.slice p.na p.nos.length p.nc,.slice p.ia p.ids.length p.ic] 42)).cell? ⟨wr.heap.size,1,none⟩ = some (.string p.key.text):=newc 1 rfl
    have z2:(wr.alloc (.cells #[.int .i64 p.key.kind,.string p.key.text,.slice p.na p.nos.length p.nc,.slice p.ia p.ids.length p.ic] 42)).cell? ⟨wr.heap.size,2,none⟩ = some (.slice p.na p.nos.length p.nc):=newc 2 rfl
    have z3:(wr.alloc (.cells #[.int .i64 p.key.kind,.string p.key.text,.slice p.na p.nos.length p.nc,.slice p.ia p.ids.length p.ic] 42)).cell? ⟨wr.heap.size,3,none⟩ = some (.slice p.ia p.ids.length p.ic):=newc 3 rfl
    have HBN:=Lib.hid (new1 (w:=wr) (.cells #[.int .i64 p.key.kind,.string p.key.text,.slice p.na p.nos.length p.nc,.slice p.ia p.ids.length p.ic] 42))
    have HPK0:=heap_alloc_new wr (.cells #[.int .i64 p.key.kind,.string p.key.text,.slice p.na p.nos.length p.nc,.slice p.ia p.ids.length p.ic] 42)
    go_upto_region 10 with (fail)
    clear c0 c1 c2 c3
    generalize wr.alloc (.cells #[.int .i64 p.key.kind,.string p.key.text,.slice p.na p.nos.length p.nc,.slice p.ia p.ids.length p.ic] 42) = W7 at *
    have HB7:=Lib.hid (hb.out.trans (HBN.out.mono hb.out.size))
    have HPK:=Lib.hid HPK0
    clear HPK0 hb hin HBN z0 z1 z2 z3
    generalize wr.heap.size = pk at *
    have x3:=cell_h HPK.out 3 (v:=.slice p.ia p.ids.length p.ic) rfl
    go_wp2_with fail
    clear x3
    go_loopw [60] (fun t wr => ∃ j:Nat,j ≤ p.ids.length ∧ t = .int .i64 j ∧ Hid (Below W7.heap.size W7 wr)) (fun t _ => p.ids.length - (intOf t).toNat)
    case atStart => exact ⟨0,by omega,rfl,Below.refl _ _⟩
    case round =>
     obtain ⟨j,hj,rfl,hb⟩:=hrel
     have HIN7:=Lib.hid (HIN6.out.below (HB7.out.trans (hb.out.mono HB7.out.size)))
     by_cases hltj:j < p.ids.length
     ·obtain ⟨b2,off2,hA2,hbl2,hc2⟩:=HAI.out.at_ HIN7.out hltj (by omega)
      have c0:wr.cell? ⟨b2,off2 + j * 2,none⟩ = some (.int .i64 p.ids[j].kind):=hc2 0 (by omega)
      have c1:wr.cell? ⟨b2,off2 + j * 2 + 1,none⟩ = some (.string p.ids[j].text):=hc2 1 (by omega)
      have HXM:=Lib.hid (List.getElem_mem hltj)
      obtain ⟨ia,hia⟩:∃ ia,p.ia = ia:=⟨_,rfl⟩
      have HIA:=Lib.hid hia
      rw [hia] at hA2 ⊢
      subst hA2
      clear hc2 hbl2
      generalize p.ids[j] = x at *
      have HXB0:=heap_alloc_new wr (.cells #[.int .i64 x.kind,.string x.text] 36)
      have hn1:=new1 (w:=wr) (.cells #[.int .i64 x.kind,.string x.text] 36)
      have HB8:=Lib.hid (hb.out.trans (hn1.mono hb.out.size))
      have hlj2:(j:Int) < p.ids.length:=by omega
      go_upto_region 13 with (fail)
      have HXB:=Lib.hid HXB0
      clear c0 c1 hia hn1 hb HXB0 HIN7
      generalize wr.alloc (.cells #[.int .i64 x.kind,.string x.text] 36) = W8 at *
      generalize wr.heap.size = xb at *
      have HIN8:=Lib.hid (HIN6.out.below (HB7.out.trans (HB8.out.mono HB7.out.size)))
      have HPK8:=Lib.hid ((HB8.out.block pk (lt_of_heap HPK.out)).trans HPK.out)
      have HTXT:Hid (∀ y ∈ p.ids,y.text.size ≤ 1000000):=fun y hy => by have:=(fit_of (HVAL.out y hy)).2;omega
      have HMO:=Lib.hid (fun W (hW:H6.In W) => mayOf_any H6 HML6.out Ap capp ps A2 cap2 ss p.ia p.ic p.ids x q.purp q.region q.ch q.at_ W hW HP6.out (by omega) HR6.out (by omega) HSZ.out HAI.out (by omega) HTXT.out (HTXT.out x HXM.out) (by have:=HQ.out.region;omega))
      have hqk:=HIN8.out qb _ HQ6.out
      have q2:=cell_h hqk 2 (v:=.string q.purp) rfl
      have q3:=cell_h hqk 3 (v:=.string q.region) rfl
      have q4:=cell_h hqk 4 (v:=.int .i64 q.ch) rfl
      have q5:=cell_h hqk 5 (v:=.int .i64 q.at_) rfl
      have x0:=cell_h HXB.out 0 (v:=.int .i64 x.kind) rfl
      have x1:=cell_h HXB.out 1 (v:=.string x.text) rfl
      have p3:=cell_h HPK8.out 3 (v:=.slice p.ia p.ids.length p.ic) rfl
      clear hqk
      go_wp2_with fail
      refine (HMO.out W8 HIN8.out).mono ?_
      rintro e W9 ⟨rfl,hb9⟩
      have HLESS:Hid (∀ b ∈ pb,x ∈ b.ids → ofErr ps ss p.ids x q.purp q.region q.ch q.at_ = 0 → ofErr ps ss b.ids x q.purp q.region q.ch q.at_ = 0 ∧ ((mayOfA ps ss p.ids x q.purp q.region q.ch q.at_).may = true → (mayOfA ps ss b.ids x q.purp q.region q.ch q.at_).may = true)):=fun b hbm hx he => by
       have hs:=HSUB.out b hbm x hx HXM.out
       have h0:=err_less hs he (HCQ.out.lenB b hbm) hx
       exact ⟨h0,fun hm => top_less hs he h0 hm⟩
      have HASK:Hid (ofErr ps ss p.ids x q.purp q.region q.ch q.at_ = 0 → (mayOfA ps ss p.ids x q.purp q.region q.ch q.at_).may = true → askNo ps ss x.kind x.text q.purp q.region q.ch q.at_ = (0,[wdS ss x q.purp q.region q.ch q.at_])):=fun he hm => top_ask he hm (by omega) HNO.out
      have HTHEN:Hid (ofErr ps ss p.ids x q.purp q.region q.ch q.at_ = 0 → (mayOfA ps ss p.ids x q.purp q.region q.ch q.at_).may = true → ∀ y ∈ p.ids,ofErr ps (ss ++ [wdS ss x q.purp q.region q.ch q.at_]) p.ids y q.purp q.region q.ch q.at_ = 0 ∧ (mayOfA ps (ss ++ [wdS ss x q.purp q.region q.ch q.at_]) p.ids y q.purp q.region q.ch q.at_).may = false):=fun he hm y hy => top_then he hm (by omega) HNO.out hy
      clear q2 q3 q4 q5 x0 x1 p3 HMO
      generalize mayOfA ps ss p.ids x q.purp q.region q.ch q.at_ = an at *
      generalize ofErr ps ss p.ids x q.purp q.region q.ch q.at_ = er at *
      have hav:ansV an = .agg #[.bool an.may,.int .i64 an.why,.int .i64 an.no]:=rfl
      rw [hav]
      clear hav
      have HAB0:=heap_alloc_new W9 (.cells #[.bool an.may,.int .i64 an.why,.int .i64 an.no] 44)
      have hn9:=new1 (w:=W9) (.cells #[.bool an.may,.int .i64 an.why,.int .i64 an.no] 44)
      have HB10:=Lib.hid ((HB8.out.trans (hb9.mono HB8.out.size)).trans (hn9.mono (Nat.le_trans HB8.out.size hb9.size)))
      have HXB10:=Lib.hid (((hb9.trans (hn9.mono hb9.size)).block xb (lt_of_heap HXB.out)).trans HXB.out)
      go_upto_region 14 with (fail)
      have HAB:=Lib.hid HAB0
      clear HAB0 hn9 hb9 HB8 HIN8 HPK8 HXB
      generalize W9.alloc (.cells #[.bool an.may,.int .i64 an.why,.int .i64 an.no] 44) = W10 at *
      generalize W9.heap.size = nb at *
      have HBX:Hid (Below W6.heap.size W6 W10):=HB7.out.trans (HB10.out.mono HB7.out.size)
      go_wp2_with fail
      go_loopw [83] (fun t wr => ∃ l:Nat,l ≤ pb.length ∧ t = .int .i64 l ∧ Hid (Below W10.heap.size W10 wr)) (fun t _ => pb.length - (intOf t).toNat)
      case atStart => exact ⟨0,by omega,rfl,Below.refl _ _⟩
      case round =>
       obtain ⟨l,hl,rfl,hb⟩:=hrel
       have HIN10:=Lib.hid (HIN6.out.below (HBX.out.trans (hb.out.mono HBX.out.size)))
       by_cases hltl:l < pb.length
       ·obtain ⟨b3,off3,hA3,hbl3,hc3⟩:=HPB6.out.1.at_ HIN10.out hltl (by omega)
        have c0:wr.cell? ⟨b3,off3 + l * 4,none⟩ = some (.int .i64 pb[l].key.kind):=hc3 0 (by omega)
        have c1:wr.cell? ⟨b3,off3 + l * 4 + 1,none⟩ = some (.string pb[l].key.text):=hc3 1 (by omega)
        have c2:wr.cell? ⟨b3,off3 + l * 4 + 2,none⟩ = some (.slice pb[l].na pb[l].nos.length pb[l].nc):=hc3 2 (by omega)
        have c3:wr.cell? ⟨b3,off3 + l * 4 + 3,none⟩ = some (.slice pb[l].ia pb[l].ids.length pb[l].ic):=hc3 3 (by omega)
        have HBI:=Lib.hid (HPB6.out.2 _ (List.getElem_mem hltl)).2
        have hblen:=HCQ.out.lenB _ (List.getElem_mem hltl)
        have HLS:=Lib.hid (HLESS.out _ (List.getElem_mem hltl))
        have HSB:=Lib.hid (fun hx => HSUB.out _ (List.getElem_mem hltl) x hx HXM.out)
        have hll2:(l:Int) < pb.length:=by omega
        subst hA3
        clear hc3 hbl3
        generalize pb[l] = d at *
        have z0:(wr.alloc (.cells #[.int .i64 d.key.kind,.string d.key.text,.slice d.na d.nos.length d.nc,.slice d.ia d.ids.length d.ic] 42)).cell? ⟨wr.heap.size,0,none⟩ = some (.int .i64 d.key.kind):=newc 0 rfl
        have z1:(wr.alloc (.cells #[.int .i64 d.key.kind,.string d.key.text,.slice d.na d.nos.length d.nc,.slice d.ia d.ids.length d.ic] 42)).cell? ⟨wr.heap.size,1,none⟩ = some (.string d.key.text):=newc 1 rfl
        have z2:(wr.alloc (.cells #[.int .i64 d.key.kind,.string d.key.text,.slice d.na d.nos.length d.nc,.slice d.ia d.ids.length d.ic] 42)).cell? ⟨wr.heap.size,2,none⟩ = some (.slice d.na d.nos.length d.nc):=newc 2 rfl
        have z3:(wr.alloc (.cells #[.int .i64 d.key.kind,.string d.key.text,.slice d.na d.nos.length d.nc,.slice d.ia d.ids.length d.ic] 42)).cell? ⟨wr.heap.size,3,none⟩ = some (.slice d.ia d.ids.length d.ic):=newc 3 rfl
        have HBN:=Lib.hid (new1 (w:=wr) (.cells #[.int .i64 d.key.kind,.string d.key.text,.slice d.na d.nos.length d.nc,.slice d.ia d.ids.length d.ic] 42))
        have HDK0:=heap_alloc_new wr (.cells #[.int .i64 d.key.kind,.string d.key.text,.slice d.na d.nos.length d.nc,.slice d.ia d.ids.length d.ic] 42)
        go_upto_region 17 with (fail)
        clear c0 c1 c2 c3
        generalize wr.alloc (.cells #[.int .i64 d.key.kind,.string d.key.text,.slice d.na d.nos.length d.nc,.slice d.ia d.ids.length d.ic] 42) = W11 at *
        have HB11:=Lib.hid (hb.out.trans (HBN.out.mono hb.out.size))
        have HIN11:=Lib.hid (HIN10.out.below HBN.out)
        have HDK:=Lib.hid HDK0
        clear HDK0 hb HIN10 HBN z0 z1 z2 z3
        generalize wr.heap.size = dk at *
        by_cases her:er = 0
        ·have k1:(er != 0) = false:=by simpa using her
         have HER:=Lib.hid her
         clear her
         have HXB11:=(HB11.out.block xb (lt_of_heap HXB10.out)).trans HXB10.out
         have d3:=cell_h HDK.out 3 (v:=.slice d.ia d.ids.length d.ic) rfl
         have x0:=cell_h HXB11 0 (v:=.int .i64 x.kind) rfl
         have x1:=cell_h HXB11 1 (v:=.string x.text) rfl
         have HCN:=Lib.hid (contains_Id H6 d.ia d.ic d.ids x W11 HIN11.out HBI.out (by omega))
         clear HXB11
         go_wp2_with fail
         refine HCN.out.mono ?_
         rintro e W12 ⟨rfl,hb12⟩
         have HB12:=Lib.hid (HB11.out.trans (hb12.mono HB11.out.size))
         have HIN12:=Lib.hid (HIN11.out.below hb12)
         have HDK12:=Lib.hid ((hb12.block dk (lt_of_heap HDK.out)).trans HDK.out)
         clear hb12 HCN HB11 HIN11 HDK d3 x0 x1
         generalize hcb:anyF (eqId x) d.ids = cb at *
         have HCB:=Lib.hid hcb
         clear hcb
         cases cb with
         | false =>
          go_wp2_with fail
          go_roundw
          case rel => exact ⟨l + 1,(by clear k1;omega),by go_num,HB12⟩
          case measure => exact meas_step hltl
         | true =>
          have hxd:x ∈ d.ids:=by
           obtain ⟨z,hz,e⟩:=List.any_eq_true.1 HCB.out
           rw [eqId_iff.1 e];exact hz
          obtain ⟨he0,hmm⟩:=HLS.out hxd HER.out
          have HMM:=Lib.hid hmm
          have HTX2:Hid (∀ y ∈ d.ids,y.text.size ≤ 1000000):=fun y hy => HTXT.out y (HSB.out hxd y hy)
          have HMO2:=Lib.hid (mayOf_any H6 HML6.out Ap capp ps A2 cap2 ss d.ia d.ic d.ids x q.purp q.region q.ch q.at_ W12 HIN12.out HP6.out (by omega) HR6.out (by omega) HSZ.out HBI.out (by omega) HTX2.out (HTXT.out x HXM.out) (by have:=HQ.out.region;omega))
          rw [he0] at HMO2
          have hqk:=HIN12.out qb _ HQ6.out
          have q2:=cell_h hqk 2 (v:=.string q.purp) rfl
          have q3:=cell_h hqk 3 (v:=.string q.region) rfl
          have q4:=cell_h hqk 4 (v:=.int .i64 q.ch) rfl
          have q5:=cell_h hqk 5 (v:=.int .i64 q.at_) rfl
          have HXB12:=(HB12.out.block xb (lt_of_heap HXB10.out)).trans HXB10.out
          have x0:=cell_h HXB12 0 (v:=.int .i64 x.kind) rfl
          have x1:=cell_h HXB12 1 (v:=.string x.text) rfl
          have d3:=cell_h HDK12.out 3 (v:=.slice d.ia d.ids.length d.ic) rfl
          clear hqk HXB12 hmm he0
          go_wp2_with fail
          refine HMO2.out.mono ?_
          rintro e W13 ⟨rfl,hb13⟩
          clear HMO2 q2 q3 q4 q5 x0 x1 d3
          generalize mayOfA ps ss d.ids x q.purp q.region q.ch q.at_ = ab at *
          have hav:ansV ab = .agg #[.bool ab.may,.int .i64 ab.why,.int .i64 ab.no]:=rfl
          rw [hav]
          clear hav
          have HBB0:=heap_alloc_new W13 (.cells #[.bool ab.may,.int .i64 ab.why,.int .i64 ab.no] 44)
          have hn13:=new1 (w:=W13) (.cells #[.bool ab.may,.int .i64 ab.why,.int .i64 ab.no] 44)
          have HB14:=Lib.hid ((HB12.out.trans (hb13.mono HB12.out.size)).trans (hn13.mono (Nat.le_trans HB12.out.size hb13.size)))
          go_upto_region 19 with (fail)
          have HBB:=Lib.hid HBB0
          clear HBB0 hn13 hb13 HB12 HIN12 HDK12
          generalize W13.alloc (.cells #[.bool ab.may,.int .i64 ab.why,.int .i64 ab.no] 44) = W14 at *
          generalize W13.heap.size = mb at *
          have hab:=(HB14.out.block nb (lt_of_heap HAB.out)).trans HAB.out
          have a0:=cell_h hab 0 (v:=.bool an.may) rfl
          have b0:=cell_h HBB.out 0 (v:=.bool ab.may) rfl
          clear hab
          by_cases hM:an.may = true
          ·rw [hM] at a0
           rw [HMM.out hM] at b0
           clear hM HLESS HASK HTHEN HLS HSB HCB HER HMM HBB
           go_wp2_with fail
           clear a0 b0
           go_roundw
           case rel => exact ⟨l + 1,(by clear k1;omega),by go_num,HB14⟩
           case measure => exact meas_step hltl
          ·rw [Bool.not_eq_true] at hM
           rw [hM] at a0
           clear b0 hM HLESS HASK HTHEN HLS HSB HCB HER HMM HBB
           go_wp2_with fail
           clear a0
           go_roundw
           case rel => exact ⟨l + 1,(by clear k1;omega),by go_num,HB14⟩
           case measure => exact meas_step hltl
        ·have k1:(er != 0) = true:=by simpa using her
         clear her
         go_wp2_with fail
         go_roundw
         case rel => exact ⟨l + 1,by omega,by go_num,HB11⟩
         case measure => simp [intOf];omega
       ·have hle:l = pb.length:=by omega
        subst hle
        have HBE:=Lib.hid (HB10.out.trans (hb.out.mono HB10.out.size))
        have HAE:=Lib.hid ((hb.out.block nb (lt_of_heap HAB.out)).trans HAB.out)
        have HXE:=Lib.hid ((hb.out.block xb (lt_of_heap HXB10.out)).trans HXB10.out)
        clear hb
        by_cases her:er = 0
        ·have k1:(er != 0) = false:=by simpa using her
         have HER:=Lib.hid her
         clear her
         have a0:=cell_h HAE.out 0 (v:=.bool an.may) rfl
         by_cases hM:an.may = true
         ·rw [hM] at a0
          have HA0:=Lib.hid (HASK.out HER.out hM)
          have HT0:=Lib.hid (HTHEN.out HER.out hM)
          clear hM HLESS HASK HTHEN
          have HINX:=Lib.hid (HIN6.out.below (HB7.out.trans (HBE.out.mono HB7.out.size)))
          have HPKE:=Lib.hid ((HBE.out.block pk (lt_of_heap HPK.out)).trans HPK.out)
          have hqk:=HINX.out qb _ HQ6.out
          have q2:=cell_h hqk 2 (v:=.string q.purp) rfl
          have q3:=cell_h hqk 3 (v:=.string q.region) rfl
          have q4:=cell_h hqk 4 (v:=.int .i64 q.ch) rfl
          have q5:=cell_h hqk 5 (v:=.int .i64 q.at_) rfl
          have x0:=cell_h HXE.out 0 (v:=.int .i64 x.kind) rfl
          have x1:=cell_h HXE.out 1 (v:=.string x.text) rfl
          have HTXT:Hid (∀ y ∈ p.ids,y.text.size ≤ 1000000):=fun y hy => by have:=(fit_of (HVAL.out y hy)).2;omega
          have HAC:=Lib.hid (askNo_any H6 HML6.out Ap capp ps A2 cap2 ss x.kind x.text q.purp q.region q.ch q.at_ wr HINX.out HP6.out (by omega) HR6.out (by omega) HSZ.out (HTXT.out x HXM.out) (by have:=HQ.out.region;omega))
          rw [HA0.out] at HAC
          have HSC:Hid (SzSt (ss ++ [wdS ss x q.purp q.region q.ch q.at_])):=fun s hs => by
           rcases List.mem_append.1 hs with hs | hs
           ·exact HSZ.out s hs
           ·rw [List.mem_singleton] at hs
            subst hs
            have h1:=HQ.out.purp
            have h2:=HQ.out.region
            exact ⟨HTXT.out x HXM.out,by show q.purp.size ≤ 1000000;omega,by show q.region.size ≤ 1000000;omega⟩
          clear hqk HA0
          generalize wdS ss x q.purp q.region q.ch q.at_ = wd at *
          go_wp2_with fail
          refine HAC.out.mono ?_
          rintro e WA ⟨vx,rfl,hO,hb⟩
          dsimp only at hO
          obtain ⟨A5,cap5,H7,hvx,hle5,p1,p2,hR5,-,-⟩:=hO.freeze H6
          subst hvx
          have le7:=p2 (fun g hg => HINX.out.none_ (hO.lt hg).1)
          have HIN7x:=Lib.hid (p1 (HINX.out.below hb))
          have HP7:=Lib.hid (HP6.out.le le7)
          have HML7:=Lib.hid (HML6.out.le le7)
          have HR7:=Lib.hid (HR6.out.le le7)
          have HR57:=Lib.hid hR5
          have HAI7:=Lib.hid (HAI.out.le le7)
          have HQ7:=Lib.hid (le7 _ _ HQ6.out)
          have HBA:=Lib.hid (HBE.out.trans (hb.mono HBE.out.size))
          have HPKA:=Lib.hid ((hb.block pk (lt_of_heap HPKE.out)).trans HPKE.out)
          have p3:=cell_h HPKA.out 3 (v:=.slice p.ia p.ids.length p.ic) rfl
          clear a0 q2 q3 q4 q5 x0 x1 HAC hO hb p1 p2 hR5 le7 HINX HPKE
          go_wp2_with fail
          clear p3
          go_loopw [157] (fun t wr => ∃ k:Nat,k ≤ p.ids.length ∧ t = .int .i64 k ∧ Hid (Below WA.heap.size WA wr)) (fun t _ => p.ids.length - (intOf t).toNat)
          case atStart => exact ⟨0,by clear k1;omega,rfl,Below.refl _ _⟩
          case round =>
           obtain ⟨k,hk,rfl,hb⟩:=hrel
           have HINk:=Lib.hid (HIN7x.out.below hb.out)
           by_cases hltk:k < p.ids.length
           ·obtain ⟨b4,off4,hA4,hbl4,hc4⟩:=HAI7.out.at_ HINk.out hltk (by omega)
            have c0:wr.cell? ⟨b4,off4 + k * 2,none⟩ = some (.int .i64 p.ids[k].kind):=hc4 0 (by omega)
            have c1:wr.cell? ⟨b4,off4 + k * 2 + 1,none⟩ = some (.string p.ids[k].text):=hc4 1 (by omega)
            have HYM:=Lib.hid (List.getElem_mem hltk)
            have HTY:=Lib.hid (HT0.out _ HYM.out)
            have hlk2:(k:Int) < p.ids.length:=by clear k1;omega
            obtain ⟨ib,hib⟩:∃ ib,p.ia = ib:=⟨_,rfl⟩
            have HIB:=Lib.hid hib
            rw [hib] at hA4 ⊢
            subst hA4
            clear hc4 hbl4
            generalize p.ids[k] = y at *
            have HYB0:=heap_alloc_new wr (.cells #[.int .i64 y.kind,.string y.text] 36)
            have hny:=new1 (w:=wr) (.cells #[.int .i64 y.kind,.string y.text] 36)
            have HBY0:=hb.out.trans (hny.mono hb.out.size)
            go_upto_region 29 with (fail)
            clear c0 c1 hib
            generalize wr.alloc (.cells #[.int .i64 y.kind,.string y.text] 36) = W15 at *
            generalize wr.heap.size = yb at *
            have HBY:=Lib.hid HBY0
            have hin15:H7.In W15:=HIN7x.out.below HBY.out
            have hle15:H7.Le (wholeH W15):=fun b o h => hin15 b o h
            have HIN15:Hid ((wholeH W15).In W15):=wholeH_in W15
            have HML15:=Lib.hid (HML7.out.le hle15)
            have HP15:=Lib.hid (HP7.out.le hle15)
            have HAI15:=Lib.hid (HAI7.out.le hle15)
            have HQ15:=Lib.hid (hle15 _ _ HQ7.out)
            have HR15:=Lib.hid (HR7.out.le hle15)
            have HR515:=Lib.hid (HR57.out.le hle15)
            have HPK15:Hid (wholeH W15 pk = some (.cells #[.int .i64 p.key.kind,.string p.key.text,.slice p.na p.nos.length p.nc,.slice p.ia p.ids.length p.ic] 42)):=(HBY.out.block pk (lt_of_heap HPKA.out)).trans HPKA.out
            have HYB15:Hid (wholeH W15 yb = some (.cells #[.int .i64 y.kind,.string y.text] 36)):=HYB0
            clear hin15 hle15 hny hb HYB0 HBY0 HINk
            generalize hH15:wholeH W15 = H15 at *
            clear hH15
            obtain ⟨ls,hls⟩:∃ ls:List SlD,ls = [⟨A2,cap2,ss⟩,⟨A5,cap5,[wd]⟩]:=⟨_,rfl⟩
            have HLS:Hid (ls.length = 2):=by show _ = _;rw [hls];rfl
            have HCAT:Hid (catF ls = ss ++ [wd]):=by show _ = _;rw [hls];simp [catF]
            have HALL:Hid (∀ d ∈ ls,Rw H15 d.A 8 fSt d.l):=by
             intro d hd
             rw [hls] at hd
             simp at hd
             rcases hd with rfl | rfl
             ·exact HR15.out
             ·exact HR515.out
            have HCS:Hid (cellsOf 1 fSl ls = [.slice A2 ss.length cap2,.slice A5 [wd].length cap5]):=by show _ = _;rw [hls];rfl
            clear hls HR15 HR515
            obtain ⟨an2,han2⟩:∃ an2,mayOfA ps (ss ++ [wd]) p.ids y q.purp q.region q.ch q.at_ = an2:=⟨_,rfl⟩
            have HAN:=Lib.hid han2
            rw [han2] at HTY
            clear han2
            refine wp_region_concV 22 190 (φT W15.heap.size qb pk q (.slice Ap ps.length capp) (.slice A2 ss.length cap2) (.slice A5 [wd].length cap5) (.slice p.ia p.ids.length p.ic) (.agg #[.int .i64 y.kind,.string y.text]) ls an2) (BoxJ 44 20 24 21 H15 W15 (fun cs _ => cs = #[.bool an2.may,.int .i64 an2.why,.int .i64 an2.no])) (ET 44) (by kernel_rfl) (by kernel_rfl) (by rfl) (BoxJ.start HIN15.out _ _) (fun i x w w' _ e h => φT_mono i x w w' e h) (fun i x w hi e h => ?_) ?_ ?_
            ·have hcs:i = 21:=by
              have:i = 0 ∨ i = 1 ∨ i = 2 ∨ i = 3 ∨ i = 4 ∨ i = 5 ∨ i = 6 ∨ i = 7 ∨ i = 8 ∨ i = 9 ∨ i = 10 ∨ i = 11 ∨ i = 12 ∨ i = 13 ∨ i = 14 ∨ i = 15 ∨ i = 16 ∨ i = 17 ∨ i = 18 ∨ i = 19 ∨ i = 20 ∨ i = 21:=by omega
              rcases this with rfl | rfl | rfl | rfl | rfl | rfl | rfl | rfl | rfl | rfl | rfl | rfl | rfl | rfl | rfl | rfl | rfl | rfl | rfl | rfl | rfl | rfl <;> first | rfl | exact absurd e (by decide)
             subst hcs
             trivial
            ·intro n o hn ho a W2 L hr hsN hLs hJ hkn
             replace hsN:a.tmps.size = 190:=hsN
             have hcs:n = 0 ∨ n = 1 ∨ n = 2 ∨ n = 3 ∨ n = 4 ∨ n = 5 ∨ n = 6 ∨ n = 7 ∨ n = 8 ∨ n = 9 ∨ n = 10 ∨ n = 11 ∨ n = 12 ∨ n = 13 ∨ n = 14 ∨ n = 15 ∨ n = 16 ∨ n = 17 ∨ n = 18 ∨ n = 19 ∨ n = 20 ∨ n = 21:=by omega
             rcases hcs with rfl | rfl | rfl | rfl | rfl | rfl | rfl | rfl | rfl | rfl | rfl | rfl | rfl | rfl | rfl | rfl | rfl | rfl | rfl | rfl | rfl | rfl
             ·obtain rfl:=Option.some.inj ho
              refine OpV.mono (R:=fun v w' => φT W15.heap.size qb pk q (.slice Ap ps.length capp) (.slice A2 ss.length cap2) (.slice A5 [wd].length cap5) (.slice p.ia p.ids.length p.ic) (.agg #[.int .i64 y.kind,.string y.text]) ls an2 0 v w' ∧ Below W2.heap.size W2 w') ?_ (fun v w' h => ⟨h.1,hJ.step (fun cs hb h => h) h.2 (by decide) (by decide) (by decide) v,ET.of h.2⟩)
              exact ⟨hkn 8 (by decide),Below.refl _ _⟩
             ·obtain rfl:=Option.some.inj ho
              refine OpV.mono (R:=fun v w' => φT W15.heap.size qb pk q (.slice Ap ps.length capp) (.slice A2 ss.length cap2) (.slice A5 [wd].length cap5) (.slice p.ia p.ids.length p.ic) (.agg #[.int .i64 y.kind,.string y.text]) ls an2 1 v w' ∧ Below W2.heap.size W2 w') ?_ (fun v w' h => ⟨h.1,hJ.step (fun cs hb h => h) h.2 (by decide) (by decide) (by decide) v,ET.of h.2⟩)
              exact ⟨hkn 9 (by decide),Below.refl _ _⟩
             ·obtain rfl:=Option.some.inj ho
              refine OpV.mono (R:=fun v w' => φT W15.heap.size qb pk q (.slice Ap ps.length capp) (.slice A2 ss.length cap2) (.slice A5 [wd].length cap5) (.slice p.ia p.ids.length p.ic) (.agg #[.int .i64 y.kind,.string y.text]) ls an2 2 v w' ∧ Below W2.heap.size W2 w') ?_ (fun v w' h => ⟨h.1,hJ.step (fun cs hb h => h) h.2 (by decide) (by decide) (by decide) v,ET.of h.2⟩)
              exact ⟨hkn 21 (by decide),Below.refl _ _⟩
             ·obtain rfl:=Option.some.inj ho
              refine OpV.mono (R:=fun v w' => φT W15.heap.size qb pk q (.slice Ap ps.length capp) (.slice A2 ss.length cap2) (.slice A5 [wd].length cap5) (.slice p.ia p.ids.length p.ic) (.agg #[.int .i64 y.kind,.string y.text]) ls an2 3 v w' ∧ Below W2.heap.size W2 w') ?_ (fun v w' h => ⟨h.1,hJ.step (fun cs hb h => h) h.2 (by decide) (by decide) (by decide) v,ET.of h.2⟩)
              have h1:=slot_of (hkn 163 (by decide):a.tmps.getD 163 undef = .slice A2 ss.length cap2)
              have h2:=slot_of (hkn 164 (by decide):a.tmps.getD 164 undef = .slice A5 [wd].length cap5)
              clear hkn ho
              simp only [OpV,execOp]
              simp [go_sem,h1,h2]
              exact ⟨⟨W2.heap.size,rfl,hJ.bel.size,heap_alloc_new _ _⟩,new1 _⟩
             ·obtain rfl:=Option.some.inj ho
              refine OpV.mono (R:=fun v w' => φT W15.heap.size qb pk q (.slice Ap ps.length capp) (.slice A2 ss.length cap2) (.slice A5 [wd].length cap5) (.slice p.ia p.ids.length p.ic) (.agg #[.int .i64 y.kind,.string y.text]) ls an2 4 v w' ∧ Below W2.heap.size W2 w') ?_ (fun v w' h => ⟨h.1,hJ.step (fun cs hb h => h) h.2 (by decide) (by decide) (by decide) v,ET.of h.2⟩)
              obtain ⟨b,h1,hb0,hh⟩:∃ b:Nat,a.tmps.getD 165 undef = .slice (some ⟨b,0,none⟩) 2 2 ∧ W15.heap.size ≤ b ∧ W2.heap[b]? = some (.cells #[.slice A2 ss.length cap2,.slice A5 [wd].length cap5] 32 (0,0)):=hkn 165 (by decide)
              replace h1:=slot_of h1
              have hbn:=HIN15.out.none_ hb0
              have hrw:Rw (H15.add b (.cells #[.slice A2 ss.length cap2,.slice A5 [wd].length cap5] 32 (0,0))) (some ⟨b,0,none⟩) 1 fSl ls:=Rw_blk (T:=32) (by rw [HCS.out];exact Frz.add_at _ _ _)
              have hcc:=concat_St _ (some ⟨b,0,none⟩) 2 ls W2 (hJ.inn.add hh) hrw (fun d hd => (HALL.out d hd).le (Frz.le_add hbn)) (by have:=HLS.out;omega) (by rw [HCAT.out,List.length_append,List.length_singleton];omega)
              rw [HLS.out] at hcc
              have hsz7:=hJ.bel.size
              clear hkn ho
              simp only [OpV,execOp]
              simp [go_sem,h1]
              refine hcc.mono ?_
              rintro e w' ⟨⟨v,rfl,hO⟩,hb⟩
              exact ⟨v,rfl,hO.mono hsz7,hb⟩
             ·obtain rfl:=Option.some.inj ho
              refine OpV.mono (R:=fun v w' => φT W15.heap.size qb pk q (.slice Ap ps.length capp) (.slice A2 ss.length cap2) (.slice A5 [wd].length cap5) (.slice p.ia p.ids.length p.ic) (.agg #[.int .i64 y.kind,.string y.text]) ls an2 5 v w' ∧ Below W2.heap.size W2 w') ?_ (fun v w' h => ⟨h.1,hJ.step (fun cs hb h => h) h.2 (by decide) (by decide) (by decide) v,ET.of h.2⟩)
              have h1:=slot_of (hkn 12 (by decide):a.tmps.getD 12 undef = .pointer (some ⟨pk,0,none⟩))
              clear hkn ho
              simp only [OpV,execOp]
              simp [go_sem,h1]
              exact ⟨rfl,Below.refl _ _⟩
             ·obtain rfl:=Option.some.inj ho
              refine OpV.mono (R:=fun v w' => φT W15.heap.size qb pk q (.slice Ap ps.length capp) (.slice A2 ss.length cap2) (.slice A5 [wd].length cap5) (.slice p.ia p.ids.length p.ic) (.agg #[.int .i64 y.kind,.string y.text]) ls an2 6 v w' ∧ Below W2.heap.size W2 w') ?_ (fun v w' h => ⟨h.1,hJ.step (fun cs hb h => h) h.2 (by decide) (by decide) (by decide) v,ET.of h.2⟩)
              have h1:=slot_of (hkn 167 (by decide):a.tmps.getD 167 undef = .pointer (some ⟨pk,3,none⟩))
              have x0:W2.cell? ⟨pk,3,none⟩ = some (.slice p.ia p.ids.length p.ic):=cell_h (hJ.inn _ _ HPK15.out) 3 rfl
              clear hkn ho
              simp only [OpV,execOp]
              simp [go_sem,h1,x0]
              exact ⟨rfl,Below.refl _ _⟩
             ·obtain rfl:=Option.some.inj ho
              refine OpV.mono (R:=fun v w' => φT W15.heap.size qb pk q (.slice Ap ps.length capp) (.slice A2 ss.length cap2) (.slice A5 [wd].length cap5) (.slice p.ia p.ids.length p.ic) (.agg #[.int .i64 y.kind,.string y.text]) ls an2 7 v w' ∧ Below W2.heap.size W2 w') ?_ (fun v w' h => ⟨h.1,hJ.step (fun cs hb h => h) h.2 (by decide) (by decide) (by decide) v,ET.of h.2⟩)
              have h1:=slot_of (hkn 23 (by decide):a.tmps.getD 23 undef = .pointer (some ⟨yb,0,none⟩))
              have x0:W2.cell? ⟨yb,0,none⟩ = some (.int .i64 y.kind):=cell_h (hJ.inn _ _ HYB15.out) 0 rfl
              have x1:W2.cell? ⟨yb,1,none⟩ = some (.string y.text):=cell_h (hJ.inn _ _ HYB15.out) 1 rfl
              clear hkn ho
              simp only [OpV,execOp]
              simp [go_sem,h1,x0,x1]
              exact ⟨rfl,Below.refl _ _⟩
             ·obtain rfl:=Option.some.inj ho
              refine OpV.mono (R:=fun v w' => φT W15.heap.size qb pk q (.slice Ap ps.length capp) (.slice A2 ss.length cap2) (.slice A5 [wd].length cap5) (.slice p.ia p.ids.length p.ic) (.agg #[.int .i64 y.kind,.string y.text]) ls an2 8 v w' ∧ Below W2.heap.size W2 w') ?_ (fun v w' h => ⟨h.1,hJ.step (fun cs hb h => h) h.2 (by decide) (by decide) (by decide) v,ET.of h.2⟩)
              have h1:=slot_of (hkn 10 (by decide):a.tmps.getD 10 undef = .pointer (some ⟨qb,0,none⟩))
              clear hkn ho
              simp only [OpV,execOp]
              simp [go_sem,h1]
              exact ⟨rfl,Below.refl _ _⟩
             ·obtain rfl:=Option.some.inj ho
              refine OpV.mono (R:=fun v w' => φT W15.heap.size qb pk q (.slice Ap ps.length capp) (.slice A2 ss.length cap2) (.slice A5 [wd].length cap5) (.slice p.ia p.ids.length p.ic) (.agg #[.int .i64 y.kind,.string y.text]) ls an2 9 v w' ∧ Below W2.heap.size W2 w') ?_ (fun v w' h => ⟨h.1,hJ.step (fun cs hb h => h) h.2 (by decide) (by decide) (by decide) v,ET.of h.2⟩)
              have h1:=slot_of (hkn 170 (by decide):a.tmps.getD 170 undef = .pointer (some ⟨qb,2,none⟩))
              have x0:W2.cell? ⟨qb,2,none⟩ = some (.string q.purp):=cell_h (hJ.inn _ _ HQ15.out) 2 rfl
              clear hkn ho
              simp only [OpV,execOp]
              simp [go_sem,h1,x0]
              exact ⟨rfl,Below.refl _ _⟩
             ·obtain rfl:=Option.some.inj ho
              refine OpV.mono (R:=fun v w' => φT W15.heap.size qb pk q (.slice Ap ps.length capp) (.slice A2 ss.length cap2) (.slice A5 [wd].length cap5) (.slice p.ia p.ids.length p.ic) (.agg #[.int .i64 y.kind,.string y.text]) ls an2 10 v w' ∧ Below W2.heap.size W2 w') ?_ (fun v w' h => ⟨h.1,hJ.step (fun cs hb h => h) h.2 (by decide) (by decide) (by decide) v,ET.of h.2⟩)
              have h1:=slot_of (hkn 10 (by decide):a.tmps.getD 10 undef = .pointer (some ⟨qb,0,none⟩))
              clear hkn ho
              simp only [OpV,execOp]
              simp [go_sem,h1]
              exact ⟨rfl,Below.refl _ _⟩
             ·obtain rfl:=Option.some.inj ho
              refine OpV.mono (R:=fun v w' => φT W15.heap.size qb pk q (.slice Ap ps.length capp) (.slice A2 ss.length cap2) (.slice A5 [wd].length cap5) (.slice p.ia p.ids.length p.ic) (.agg #[.int .i64 y.kind,.string y.text]) ls an2 11 v w' ∧ Below W2.heap.size W2 w') ?_ (fun v w' h => ⟨h.1,hJ.step (fun cs hb h => h) h.2 (by decide) (by decide) (by decide) v,ET.of h.2⟩)
              have h1:=slot_of (hkn 172 (by decide):a.tmps.getD 172 undef = .pointer (some ⟨qb,3,none⟩))
              have x0:W2.cell? ⟨qb,3,none⟩ = some (.string q.region):=cell_h (hJ.inn _ _ HQ15.out) 3 rfl
              clear hkn ho
              simp only [OpV,execOp]
              simp [go_sem,h1,x0]
              exact ⟨rfl,Below.refl _ _⟩
             ·obtain rfl:=Option.some.inj ho
              refine OpV.mono (R:=fun v w' => φT W15.heap.size qb pk q (.slice Ap ps.length capp) (.slice A2 ss.length cap2) (.slice A5 [wd].length cap5) (.slice p.ia p.ids.length p.ic) (.agg #[.int .i64 y.kind,.string y.text]) ls an2 12 v w' ∧ Below W2.heap.size W2 w') ?_ (fun v w' h => ⟨h.1,hJ.step (fun cs hb h => h) h.2 (by decide) (by decide) (by decide) v,ET.of h.2⟩)
              have h1:=slot_of (hkn 10 (by decide):a.tmps.getD 10 undef = .pointer (some ⟨qb,0,none⟩))
              clear hkn ho
              simp only [OpV,execOp]
              simp [go_sem,h1]
              exact ⟨rfl,Below.refl _ _⟩
             ·obtain rfl:=Option.some.inj ho
              refine OpV.mono (R:=fun v w' => φT W15.heap.size qb pk q (.slice Ap ps.length capp) (.slice A2 ss.length cap2) (.slice A5 [wd].length cap5) (.slice p.ia p.ids.length p.ic) (.agg #[.int .i64 y.kind,.string y.text]) ls an2 13 v w' ∧ Below W2.heap.size W2 w') ?_ (fun v w' h => ⟨h.1,hJ.step (fun cs hb h => h) h.2 (by decide) (by decide) (by decide) v,ET.of h.2⟩)
              have h1:=slot_of (hkn 174 (by decide):a.tmps.getD 174 undef = .pointer (some ⟨qb,4,none⟩))
              have x0:W2.cell? ⟨qb,4,none⟩ = some (.int .i64 q.ch):=cell_h (hJ.inn _ _ HQ15.out) 4 rfl
              clear hkn ho
              simp only [OpV,execOp]
              simp [go_sem,h1,x0]
              exact ⟨rfl,Below.refl _ _⟩
             ·obtain rfl:=Option.some.inj ho
              refine OpV.mono (R:=fun v w' => φT W15.heap.size qb pk q (.slice Ap ps.length capp) (.slice A2 ss.length cap2) (.slice A5 [wd].length cap5) (.slice p.ia p.ids.length p.ic) (.agg #[.int .i64 y.kind,.string y.text]) ls an2 14 v w' ∧ Below W2.heap.size W2 w') ?_ (fun v w' h => ⟨h.1,hJ.step (fun cs hb h => h) h.2 (by decide) (by decide) (by decide) v,ET.of h.2⟩)
              have h1:=slot_of (hkn 10 (by decide):a.tmps.getD 10 undef = .pointer (some ⟨qb,0,none⟩))
              clear hkn ho
              simp only [OpV,execOp]
              simp [go_sem,h1]
              exact ⟨rfl,Below.refl _ _⟩
             ·obtain rfl:=Option.some.inj ho
              refine OpV.mono (R:=fun v w' => φT W15.heap.size qb pk q (.slice Ap ps.length capp) (.slice A2 ss.length cap2) (.slice A5 [wd].length cap5) (.slice p.ia p.ids.length p.ic) (.agg #[.int .i64 y.kind,.string y.text]) ls an2 15 v w' ∧ Below W2.heap.size W2 w') ?_ (fun v w' h => ⟨h.1,hJ.step (fun cs hb h => h) h.2 (by decide) (by decide) (by decide) v,ET.of h.2⟩)
              have h1:=slot_of (hkn 176 (by decide):a.tmps.getD 176 undef = .pointer (some ⟨qb,5,none⟩))
              have x0:W2.cell? ⟨qb,5,none⟩ = some (.int .i64 q.at_):=cell_h (hJ.inn _ _ HQ15.out) 5 rfl
              clear hkn ho
              simp only [OpV,execOp]
              simp [go_sem,h1,x0]
              exact ⟨rfl,Below.refl _ _⟩
             ·obtain rfl:=Option.some.inj ho
              refine OpV.mono (R:=fun v w' => φT W15.heap.size qb pk q (.slice Ap ps.length capp) (.slice A2 ss.length cap2) (.slice A5 [wd].length cap5) (.slice p.ia p.ids.length p.ic) (.agg #[.int .i64 y.kind,.string y.text]) ls an2 16 v w' ∧ Below W2.heap.size W2 w') ?_ (fun v w' h => ⟨h.1,hJ.step (fun cs hb h => h) h.2 (by decide) (by decide) (by decide) v,ET.of h.2⟩)
              have h1:=slot_of (hkn 162 (by decide):a.tmps.getD 162 undef = .slice Ap ps.length capp)
              have hO:Orow W2 W15.heap.size 53 8 fSt (a.tmps.getD 166 undef) (catF ls):=hkn 166 (by decide)
              obtain ⟨A9,cap9,H9,h2,-,p1,p2,hR9,-⟩:=hO.freeze H15
              have le:=p2 (fun g hg => HIN15.out.none_ (hO.lt hg).1)
              have hin:=p1 hJ.inn
              replace h2:=slot_of h2
              have h3:=slot_of (hkn 168 (by decide):a.tmps.getD 168 undef = .slice p.ia p.ids.length p.ic)
              have h4:=slot_of (hkn 169 (by decide):a.tmps.getD 169 undef = .agg #[.int .i64 y.kind,.string y.text])
              have h5:=slot_of (hkn 171 (by decide):a.tmps.getD 171 undef = .string q.purp)
              have h6:=slot_of (hkn 173 (by decide):a.tmps.getD 173 undef = .string q.region)
              have h7:=slot_of (hkn 175 (by decide):a.tmps.getD 175 undef = .int .i64 q.ch)
              have h8:=slot_of (hkn 177 (by decide):a.tmps.getD 177 undef = .int .i64 q.at_)
              rw [HCAT.out] at h2 hR9
              have hmy:=mayOf_any H9 (HML15.out.le le) Ap capp ps A9 cap9 (ss ++ [wd]) p.ia p.ic p.ids y q.purp q.region q.ch q.at_ W2 hin (HP15.out.le le) (by omega) hR9 (by rw [List.length_append,List.length_singleton];omega) HSC.out (HAI15.out.le le) (by omega) HTXT.out (HTXT.out y HYM.out) (by have:=HQ.out.region;omega)
              rw [HTY.out.1,HAN.out] at hmy
              clear hkn ho hO p1 p2
              simp only [OpV,execOp]
              simp [go_sem,h1,h2,h3,h4,h5,h6,h7,h8]
              simp only [List.length_append,List.length_singleton] at hmy
              refine hmy.mono ?_
              rintro e w' ⟨rfl,hb⟩
              exact ⟨_,rfl,rfl,hb⟩
             ·obtain rfl:=Option.some.inj ho
              refine OpV.mono (R:=fun v w' => φT W15.heap.size qb pk q (.slice Ap ps.length capp) (.slice A2 ss.length cap2) (.slice A5 [wd].length cap5) (.slice p.ia p.ids.length p.ic) (.agg #[.int .i64 y.kind,.string y.text]) ls an2 17 v w' ∧ Below W2.heap.size W2 w') ?_ (fun v w' h => ⟨h.1,hJ.step (fun cs hb h => h) h.2 (by decide) (by decide) (by decide) v,ET.of h.2⟩)
              exact ⟨hkn 178 (by decide),Below.refl _ _⟩
             ·obtain rfl:=Option.some.inj ho
              refine OpV.mono (R:=fun v w' => φT W15.heap.size qb pk q (.slice Ap ps.length capp) (.slice A2 ss.length cap2) (.slice A5 [wd].length cap5) (.slice p.ia p.ids.length p.ic) (.agg #[.int .i64 y.kind,.string y.text]) ls an2 18 v w' ∧ Below W2.heap.size W2 w') ?_ (fun v w' h => ⟨h.1,hJ.step (fun cs hb h => h) h.2 (by decide) (by decide) (by decide) v,ET.of h.2⟩)
              have h1:=slot_of (hkn 161 (by decide):a.tmps.getD 161 undef = .tuple #[ansV an2,.int .i64 0])
              clear hkn ho
              simp only [OpV,execOp]
              simp [go_sem,h1]
              exact ⟨rfl,Below.refl _ _⟩
             ·obtain rfl:=Option.some.inj ho
              refine OpV.mono (R:=fun v w' => φT W15.heap.size qb pk q (.slice Ap ps.length capp) (.slice A2 ss.length cap2) (.slice A5 [wd].length cap5) (.slice p.ia p.ids.length p.ic) (.agg #[.int .i64 y.kind,.string y.text]) ls an2 19 v w' ∧ Below W2.heap.size W2 w') ?_ (fun v w' h => ⟨h.1,hJ.step (fun cs hb h => h) h.2 (by decide) (by decide) (by decide) v,ET.of h.2⟩)
              have h1:=slot_of (hkn 161 (by decide):a.tmps.getD 161 undef = .tuple #[ansV an2,.int .i64 0])
              clear hkn ho
              simp only [OpV,execOp]
              simp [go_sem,h1]
              exact ⟨rfl,Below.refl _ _⟩
             ·obtain rfl:=Option.some.inj ho
              refine OpV.mono (R:=fun v w' => φT W15.heap.size qb pk q (.slice Ap ps.length capp) (.slice A2 ss.length cap2) (.slice A5 [wd].length cap5) (.slice p.ia p.ids.length p.ic) (.agg #[.int .i64 y.kind,.string y.text]) ls an2 20 v w' ∧ Below W2.heap.size W2 w') ?_ (fun v w' h => ⟨h.1,hJ.new h.2 (mem_ready.1 hr).1 (by decide) v,ET.of h.2⟩)
              clear hkn ho
              simp only [OpV,execOp]
              simp [go_sem]
              exact ⟨⟨W2.heap.size,_,rfl,hJ.bel.size,heap_alloc_new _ _,rfl⟩,new1 _⟩
             ·obtain rfl:=Option.some.inj ho
              obtain ⟨b,c,h1,hb0,hbc,hcs⟩:BoxP 44 W15.heap.size 3 (a.tmps.getD 24 undef) W2:=hkn 24 (by decide)
              have h2:a.tmps.getD 179 undef = ansV an2:=hkn 179 (by decide)
              have h9:L.getD 20 false = true:=by
               obtain ⟨_,o',ho',hall⟩:=mem_ready.1 hr
               obtain rfl:=Option.some.inj ho'
               exact hall { on:=20,ground:=Ground.data } (by simp) rfl
              have hbn:=HIN15.out.none_ hb0
              refine OpV.store_whole 44 (.tmp 24) (.tmp 179) rfl b h1 #[.bool an2.may,.int .i64 an2.why,.int .i64 an2.no] h2 hbc (by rw [hcs];rfl) (by kernel_rfl) (by simp [Value.oneCell']) ?_
              intro w' hg hsz hn
              have het:=ET.store hbc (by rw [hcs];rfl) hg hn
              exact ⟨trivial,hJ.store h1 hb0 h9 (by decide) hbn hg hn rfl undef,het⟩
            ·intro yv W9 L9 hL9 hW9 hgt hφ
             have e18:yv 18 = ansV an2:=(hφ 18 (by omega)).resolve_right (fun c => (show ¬ ((some 179:Option Nat) = none) from nofun) c.1)
             have e19:yv 19 = .int .i64 0:=(hφ 19 (by omega)).resolve_right (fun c => (show ¬ ((some 180:Option Nat) = none) from nofun) c.1)
             obtain ⟨hI9,hb9,hst⟩:=hW9
             obtain ⟨-,ab,cs,hab,hq1,hq2,rfl⟩:=hst (hL9 21 (by omega))
             have e20:yv 20 = .pointer (some ⟨ab,0,none⟩):=(hgt 20 24 rfl).symm.trans hab
             clear hgt hab hst hL9 hφ
             simp only [List.drop_succ_cons,List.drop_zero,List.take_succ_cons,List.take_zero,putAll,Nat.reduceAdd,e18,e19,e20]
             clear e18 e19 e20
             generalize yv 0 = y0
             generalize yv 1 = y1
             generalize yv 2 = y2
             generalize yv 3 = y3
             generalize yv 4 = y4
             generalize yv 5 = y5
             generalize yv 6 = y6
             generalize yv 7 = y7
             generalize yv 8 = y8
             generalize yv 9 = y9
             generalize yv 10 = y10
             generalize yv 11 = y11
             generalize yv 12 = y12
             generalize yv 13 = y13
             generalize yv 14 = y14
             generalize yv 15 = y15
             generalize yv 16 = y16
             generalize yv 17 = y17
             have u0:W9.cell? ⟨ab,0,none⟩ = some (.bool an2.may):=cell_h hq2 0 rfl
             rw [HTY.out.2] at u0
             have HBF:=Lib.hid (HBY.out.trans (hb9.mono HBY.out.size))
             clear hq1 hq2 hI9 hb9 HIN15 HML15 HP15 HAI15 HQ15 HPK15 HYB15 HALL HTY HAN HYM
             go_wp2_with fail
             clear u0
             go_roundw
             case rel => exact ⟨k + 1,(by clear k1;omega),by go_num,HBF⟩
             case measure => exact meas_step hltk
           ·have hke:k = p.ids.length:=by clear k1;omega
            subst hke
            have HFE:=Lib.hid (HBA.out.trans (hb.out.mono HBA.out.size))
            clear hb HINk
            go_wp2_with fail
            go_roundw
            case rel => exact ⟨j + 1,(by clear k1;omega),by go_num,HFE⟩
            case measure => exact meas_step hltj
         ·rw [Bool.not_eq_true] at hM
          rw [hM] at a0
          clear hM
          go_wp2_with fail
          go_roundw
          case rel => exact ⟨j + 1,by omega,by go_num,HBE⟩
          case measure => simp [intOf];omega
        ·have k1:(er != 0) = true:=by simpa using her
         clear her
         go_wp2_with fail
         go_roundw
         case rel => exact ⟨j + 1,by omega,by go_num,HBE⟩
         case measure => simp [intOf];omega
     ·have hje:j = p.ids.length:=by omega
      subst hje
      have HBE:=Lib.hid (HB7.out.trans (hb.out.mono HB7.out.size))
      clear hb HIN7
      go_wp2_with fail
      go_roundw
      case rel => exact ⟨i + 1,by omega,by go_num,HBE⟩
      case measure => simp [intOf];omega
   ·have hie:i = pa.length:=by omega
    subst hie
    have HF:=Lib.hid (HB6.out.trans (hb.out.mono HB6.out.size))
    clear hb hin
    go_wp2_with fail
    exact bodyPost_ret (by kernel_rfl) rfl ⟨rfl,HF.out⟩
end Go.Proofs.YtcncifmanodabaaGreatDoor
