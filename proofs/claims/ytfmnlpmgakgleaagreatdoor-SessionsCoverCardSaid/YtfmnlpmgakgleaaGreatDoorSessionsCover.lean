/- Sessions cover the events: the law. -/
import Derived.Test.YtfmnlpmgakgleaaGreatDoorGAW
import Derived.Test.YtfmnlpmgakgleaaGreatDoorGAX
import Derived.Test.YtfmnlpmgakgleaaGreatDoorGAY
import Derived.Test.YtfmnlpmgakgleaaGreatDoorGAZ
namespace Go.Proofs.YtfmnlpmgakgleaaGreatDoor
set_option linter.unusedVariables false
open Go.RowKit
theorem at_pos {d:EvD} (h:evE okT d = 0):0 ≤ d.at_:=by
 unfold evE at h
 split at h
 ·cases h
 ·split at h
  ·cases h
  ·rename_i g
   have:=Decidable.not_not.1 g
   omega
structure SesF (es:List EvD) (gap:Int) (ss:List SesD) (i:Nat) (s:SesD) (k j:Nat):Prop where
 kn:k < es.length
 jn:j < es.length
 pos:1 ≤ s.many
 sum:k + s.many = j + 1
 id:s.first = (es[k]'kn).id
 fr:s.fr = (es[k]'kn).at_
 til:s.til = (es[j]'jn).at_ + 1
 le:(es[k]'kn).at_ ≤ (es[j]'jn).at_
 gap:∀ t,0 < i → ss[i - 1]? = some t → gap < s.fr - (t.til - 1)
theorem ses_f {es:List EvD} {gap:Int} {ss:List SesD} (h:SesAll es gap es.length ss) (ho:es.Pairwise fun a b => evLt a b = true) {i:Nat} (hi:i < ss.length):SesF es gap ss i ss[i] (preN ss i) (preN ss i + ss[i].many - 1):=by
 have a:=h.at_ i hi
 have h1:=a.pos
 have h2:=a.le
 have hk:preN ss i < es.length:=by omega
 have hj:preN ss i + ss[i].many - 1 < es.length:=by omega
 obtain ⟨f1,f2⟩:=a.first _ (List.getElem?_eq_getElem hk)
 refine ⟨hk,hj,h1,by omega,f1,f2,a.last _ (List.getElem?_eq_getElem hj),?_,a.gap⟩
 by_cases e:preN ss i = preN ss i + ss[i].many - 1
 ·simp only [← e];omega
 ·have:=List.pairwise_iff_getElem.1 ho _ _ hk hj (by omega)
  unfold evLt at this
  simp only [Bool.or_eq_true,Bool.and_eq_true,decide_eq_true_eq] at this
  omega
set_option maxHeartbeats 8000000 in
set_option maxRecDepth 100000 in
theorem sessionsCover_walk (a0:Option Addr) (len0 cap0:Nat) (z0:List Int) (w:World) (w0:IsRow .i64 w a0 len0 cap0 z0) (hG:GlobE w) :
  Calls Tryz.prog 3 #[.slice a0 len0 cap0] w fun e w' => e = .returned (.bool true) ∧ Below w.heap.size w w':=by
 have L:=Lw.whole w0
 have HG:=Lib.hid hG
 clear hG w0
 go_enter Tryz.func3,Tryz.ntmps3
 go_wp2_with fail
 refine (L.range 1 14 (by omega) (by omega) (by omega) (by omega)).mono ?_
 rintro e W1 ⟨m,rfl,m1,m2,L1,-,-⟩
 obtain ⟨m,rfl⟩:=Int.eq_ofNat_of_zero_le (show 0 ≤ m by omega)
 have HL1:=Lib.hid L1
 clear L1 L
 go_wp2_with fail
 refine (HL1.out.rightEvents (by omega) HG.out.pool HG.out.names HG.out.enames HG.out.utf HG.out.mlen m (by omega)).mono ?_
 rintro e W2 ⟨A,cap,es,H2,rfl,le2,-,L2,hR,hI,hr,hel,hcap,hat⟩
 have HU:=Lib.hid (HG.out.utf.le le2)
 have HM:=Lib.hid (HG.out.mlen.le le2)
 have C2:=Lib.hid (Sk.start (L2.more (K':=200000) (by omega)))
 have HR:=Lib.hid hR
 have HI:=Lib.hid hI
 have HRT:=Lib.hid hr
 have HAT:Hid (∀ d ∈ es,0 ≤ d.at_ ∧ d.at_ ≤ 100000):=fun d hd => ⟨at_pos (hr.one d hd),hat d hd⟩
 have hen:es.length ≤ 1000:=by omega
 clear le2 L2 hR hI hr hat HL1 HG hel
 have hne:=C2.out.lw.lt
 have hIn:Ints (W2.alloc (.cells #[.int .i64 1,.int .i64 5,.int .i64 30,.int .i64 100,.int .i64 1440] 3)) (some ⟨W2.heap.size,0,none⟩) [1,5,30,100,1440]:=Ints.of_row (heap_at rfl) rfl
 have HIn:=Lib.hid hIn
 clear hIn
 go_wp2_with fail
 refine ((C2.out.alloc _).lw.pick _ _ [1,5,30,100,1440] HIn.out (fun b off e => by injection e with e;injection e with e1 e2;omega) (by simp) (by simp) (by omega)).mono ?_
 rintro e W3 ⟨gap,rfl,hgap,Lq,gq,-⟩
 have C3:=Lib.hid ((C2.out.alloc _).asked Lq gq)
 clear Lq gq HIn hne C2
 have hgap2:1 ≤ gap ∧ gap ≤ 1440:=by simp at hgap;omega
 clear hgap
 go_wp2_with fail
 refine (sessions_any H2 HU.out HM.out A cap es gap W3 C3.out.lw.fin HR.out HI.out hen HRT.out hgap2 HAT.out).mono ?_
 rintro e W4 ⟨v,ss,rfl,hO,hS,hb⟩
 have L4:=C3.out.lw.call hb
 obtain ⟨A5,c5,H5,rfl,hle5,p1,p2,hR5,p3,-⟩:=hO.freeze H2
 have le5:=p2 (fun g hg => C3.out.lw.fin.none_ (hO.lt hg).1)
 have HIN5:Hid (H5.In W4):=p1 L4.fin
 have HBW:=Lib.hid L4.bel
 have HRE:=Lib.hid (HR.out.le le5)
 have HRS:=Lib.hid hR5
 have HIE:Hid (∀ d ∈ es,EvIn H5 d):=fun d hd => (HI.out d hd).le le5
 have HU5:=Lib.hid (HU.out.le le5)
 have HM5:=Lib.hid (HM.out.le le5)
 have HALL:=Lib.hid hS.all
 have hsl:Hid (ss.length ≤ es.length):=hS.len
 clear L4 hO hS hb p1 p2 p3 hR5 le5 C3 HR HI HU HM
 go_wp2_with fail
 have HSL:ss.length ≤ 1000:=by have:=hsl.out;omega
 go_loopw [8,34] (fun ta t wr => ∃ i:Nat,i ≤ ss.length ∧ t = .int .i64 i ∧ ta = .int .i64 (preN ss i:Nat) ∧ Hid (Below W4.heap.size W4 wr)) (fun _ t _ => ss.length - (intOf t).toNat)
 case atStart => exact ⟨0,by omega,rfl,rfl,Below.refl _ _⟩
 case round =>
  obtain ⟨i,hi,rfl,rfl,hb⟩:=hrel
  have hin:=HIN5.out.below hb.out
  by_cases hlt:i < ss.length
  ·have HF:=Lib.hid (ses_f HALL.out HRT.out.ord hlt)
   obtain ⟨b,off,hA,hbl,hc⟩:=HRS.out.at_ hin hlt (by omega)
   have hel:Hid (∀ p (hp:p < ss.length),∀ W',Below wr.heap.size wr W' → W'.cell? ⟨b,off + p * 4 + 1,none⟩ = some (.int .i64 ss[p].til)):=by
    intro p hp W' hW'
    obtain ⟨b',off',hA',hbl',hc'⟩:=HRS.out.at_ hin hp (by omega)
    rw [hA] at hA'
    simp only [Option.some.injEq,Addr.mk.injEq] at hA'
    obtain ⟨rfl,rfl,_⟩:=hA'
    exact (hW'.cell (World.block_lt_of_cell? wr _ (hc' 1 (by omega)))).trans (hc' 1 (by omega))
   have HGP:=Lib.hid (fun (p:Nat) (hp:p < ss.length) (e:i = p + 1) => HF.out.gap ss[p] (by omega) (by rw [e,Nat.add_sub_cancel];exact List.getElem?_eq_getElem hp))
   have HPN:Hid (((preN ss (i + 1):Nat):Int) = (preN ss i:Nat) + (ss[i].many:Int)):=by show _ = _;rw [preN_succ hlt];simp
   have HTB:Hid (∀ p (hp:p < ss.length),0 ≤ ss[p].til ∧ ss[p].til ≤ 100001):=fun p hp => by
    have f:=ses_f HALL.out HRT.out.ord hp
    have h1:=HAT.out _ (List.getElem_mem f.jn)
    have h2:=f.til
    omega
   obtain ⟨ib,hib⟩:∃ ib,A5 = ib:=⟨_,rfl⟩
   have HIB:=Lib.hid hib
   rw [hib] at hA ⊢
   subst hA
   have c0:wr.cell? ⟨b,off + i * 4,none⟩ = some (.int .i64 ss[i].fr):=hc 0 (by omega)
   have c1:wr.cell? ⟨b,off + i * 4 + 1,none⟩ = some (.int .i64 ss[i].til):=hc 1 (by omega)
   have c2:wr.cell? ⟨b,off + i * 4 + 2,none⟩ = some (.int .i64 ss[i].many):=hc 2 (by omega)
   have c3:wr.cell? ⟨b,off + i * 4 + 3,none⟩ = some (.string ss[i].first):=hc 3 (by omega)
   clear hc hib
   obtain ⟨j,hj⟩:∃ j,preN ss i + ss[i].many - 1 = j:=⟨_,rfl⟩
   rw [hj] at HF
   have HJE:=Lib.hid hj
   clear hj
   generalize preN ss i = k at *
   generalize ss[i] = s at *
   obtain ⟨hkn,hjn,hpos,hsum0,hid9,hfr0,htil0,hle9,-⟩:=HF.out
   have HID9:=Lib.hid hid9
   have HFR:=Lib.hid hfr0
   have HTIL:=Lib.hid htil0
   have hsm1:k + s.many ≤ j + 1:=by omega
   have hsm2:j + 1 ≤ k + s.many:=by omega
   have hfr1:s.fr ≤ es[k].at_:=by omega
   have hfr2:es[k].at_ ≤ s.fr:=by omega
   have htl1:s.til ≤ es[j].at_ + 1:=by omega
   have htl2:es[j].at_ + 1 ≤ s.til:=by omega
   clear hsum0 hid9 hfr0 htil0
   obtain ⟨be,offe,hAe,hble,hce⟩:=HRE.out.at_ hin hkn (by omega)
   obtain ⟨be',offe',hAe',hble',hce'⟩:=HRE.out.at_ hin hjn (by omega)
   have hcm:=hAe.symm.trans hAe'
   simp only [Option.some.injEq,Addr.mk.injEq,and_true] at hcm
   obtain ⟨rfl,rfl⟩:=hcm
   have e0:wr.cell? ⟨be,offe + k * 6,none⟩ = some (.string es[k].id):=hce 0 (by omega)
   have e2:wr.cell? ⟨be,offe + k * 6 + 2,none⟩ = some (.int .i64 es[k].at_):=hce 2 (by omega)
   have e9:wr.cell? ⟨be,offe + j * 6 + 2,none⟩ = some (.int .i64 es[j].at_):=hce' 2 (by omega)
   have hb0:=HAT.out _ (List.getElem_mem hkn)
   have hb1:=HAT.out _ (List.getElem_mem hjn)
   have HBU:=Lib.hid (fun (len:Int) (h1:1 ≤ len) (h2:len ≤ 4321440) W' (hW:Below wr.heap.size wr W') => busiest_any H5 HU5.out HM5.out A cap es len W' (hin.below hW) HRE.out HIE.out hen HRT.out ⟨h1,h2⟩ HAT.out)
   have HMO:Hid (∀ mo,BusF es (s.til - s.fr) es.length mo → (s.many:Int) ≤ mo):=fun mo hB => by
    have:=hB k hkn j es[k] es[j] (List.getElem?_eq_getElem hkn) (List.getElem?_eq_getElem hjn) (by omega)
    omega
   obtain ⟨ia,hia⟩:∃ ia,A = ia:=⟨_,rfl⟩
   have HIA:=Lib.hid hia
   rw [hia] at hAe HBU ⊢
   subst hAe
   clear hce hce' hia hAe' HF
   generalize es[k] = x at *
   generalize es[j] = y at *
   have z0:(wr.alloc (.cells #[.int .i64 s.fr,.int .i64 s.til,.int .i64 s.many,.string s.first] 37)).cell? ⟨wr.heap.size,0,none⟩ = some (.int .i64 s.fr):=newc 0 rfl
   have z1:(wr.alloc (.cells #[.int .i64 s.fr,.int .i64 s.til,.int .i64 s.many,.string s.first] 37)).cell? ⟨wr.heap.size,1,none⟩ = some (.int .i64 s.til):=newc 1 rfl
   have z2:(wr.alloc (.cells #[.int .i64 s.fr,.int .i64 s.til,.int .i64 s.many,.string s.first] 37)).cell? ⟨wr.heap.size,2,none⟩ = some (.int .i64 s.many):=newc 2 rfl
   have z3:(wr.alloc (.cells #[.int .i64 s.fr,.int .i64 s.til,.int .i64 s.many,.string s.first] 37)).cell? ⟨wr.heap.size,3,none⟩ = some (.string s.first):=newc 3 rfl
   have HBN:=Lib.hid (new1 (w:=wr) (.cells #[.int .i64 s.fr,.int .i64 s.til,.int .i64 s.many,.string s.first] 37))
   have HBA:=Lib.hid HBN.out
   have HBX:=Lib.hid (hb.out.trans (HBN.out.mono hb.out.size))
   have hit:(i:Int) < ss.length:=by omega
   have hkt:(k:Int) < es.length:=by omega
   have hjt:(j:Int) < es.length:=by omega
   clear HBN hb hin
   go_upto_region 11 with (fail)
   have Z0:=lift_cell z0
   have Z1:=lift_cell z1
   have Z2:=lift_cell z2
   have Z3:=lift_cell z3
   have E0:=lift_cell (lift_cell e0 _ HBA.out)
   have E2:=lift_cell (lift_cell e2 _ HBA.out)
   have E9:=lift_cell (lift_cell e9 _ HBA.out)
   clear c0 c1 c2 c3 z0 z1 z2 z3 e0 e2 e9
   generalize wr.alloc (.cells #[.int .i64 s.fr,.int .i64 s.til,.int .i64 s.many,.string s.first] 37) = W5 at *
   have hs1:decide ((s.many:Int) < 1) = false:=by simp;omega
   have hs2:IntKind.i64.wrap ((k:Int) + (s.many:Int)) = (k:Int) + s.many:=IntWalk.i64_in _ (by omega)
   have hs3:decide ((es.length:Int) < (k:Int) + s.many) = false:=by simp;omega
   have hs4:(s.first.toList == x.id.toList) = true:=by rw [HID9.out];simp
   have hs5:(s.fr != x.at_) = false:=by rw [HFR.out];simp
   (refine wp_region_det 32 136 (fun W => Below (W5).heap.size (W5) W) (by kernel_rfl) (by kernel_rfl) (by rfl) (Below.refl _ _).drew ?_;simp only [List.take_succ_cons,List.take_zero,List.drop_succ_cons,List.drop_zero])
   iterate 2 (refine detSeq_op rfl ?_ (fun W hW => ?_) ?_;rotate_left;(focus simp only [OpV];go_simp;first | exact rfl | exact ⟨rfl,hW⟩))
   (refine detSeq_op rfl (.bool false) (fun W hW => ?_) ?_;focus (simp only [OpV];go_simp;all_goals (first | exact rfl | exact hW | exact ⟨by rw [hs1],hW⟩ | exact ⟨by simp;omega,hW⟩ | (intro h;omega) | omega)))
   iterate 1 (refine detSeq_op rfl ?_ (fun W hW => ?_) ?_;rotate_left;(focus simp only [OpV];go_simp;first | exact rfl | exact ⟨rfl,hW⟩))
   iterate 6 (refine detSeq_yes (by kernel_rfl) ?_ (fun W hW => ?_) ?_;rotate_left;(focus simp only [OpV];go_simp;first | exact rfl | exact ⟨rfl,hW⟩))
   (refine detSeq_yes (by kernel_rfl) (.bool false) (fun W hW => ?_) ?_;focus (simp only [OpV];go_simp;all_goals (first | exact rfl | exact hW | exact ⟨by rw [hs3],hW⟩ | exact ⟨by simp;omega,hW⟩ | (intro h;omega) | omega)))
   iterate 2 (refine detSeq_op rfl ?_ (fun W hW => ?_) ?_;rotate_left;(focus simp only [OpV];go_simp;first | exact rfl | exact ⟨rfl,hW⟩))
   iterate 7 (refine detSeq_yes (by kernel_rfl) ?_ (fun W hW => ?_) ?_;rotate_left;(focus simp only [OpV];go_simp;first | exact rfl | exact ⟨rfl,hW⟩))
   (refine detSeq_yes (by kernel_rfl) (.bool false) (fun W hW => ?_) ?_;focus (simp only [OpV];go_simp;all_goals (first | exact rfl | exact hW | exact ⟨by rw [hs4],hW⟩ | exact ⟨by simp;omega,hW⟩ | (intro h;omega) | omega)))
   iterate 2 (refine detSeq_op rfl ?_ (fun W hW => ?_) ?_;rotate_left;(focus simp only [OpV];go_simp;first | exact rfl | exact ⟨rfl,hW⟩))
   iterate 8 (refine detSeq_yes (by kernel_rfl) ?_ (fun W hW => ?_) ?_;rotate_left;(focus simp only [OpV];go_simp;first | exact rfl | exact ⟨rfl,hW⟩))
   (refine detSeq_yes (by kernel_rfl) (.bool false) (fun W hW => ?_) ?_;focus (simp only [OpV];go_simp;all_goals (first | exact rfl | exact hW | exact ⟨by rw [hs5],hW⟩ | exact ⟨by simp;omega,hW⟩ | (intro h;omega) | omega)))
   refine detSeq_nil (fun W6 hW6 => ?_)
   have Y0:=lift_cell (Z0 _ hW6)
   have Y1:=lift_cell (Z1 _ hW6)
   have y2:=Z2 _ hW6
   have Y2:=lift_cell y2
   have F9:=lift_cell (E9 _ hW6)
   have HB56:=Lib.hid hW6
   clear hW6 Z0 Z1 Z2 Z3 E0 E2 E9 hs1 hs3 hs4 hs5
   have hj1:(k:Int) + (s.many:Int) - 1 = (j:Int):=by omega
   have hj2:IntKind.i64.wrap (j:Int) = (j:Int):=IntWalk.i64_in _ (by omega)
   have wy:IntKind.i64.wrap (y.at_ + 1) = y.at_ + 1:=IntWalk.i64_in _ (by omega)
   have ht1:(s.til != y.at_ + 1) = false:=by rw [HTIL.out];simp
   have HLM:1 ≤ s.til - s.fr ∧ s.til - s.fr ≤ 4321440:=by omega
   have w9:IntKind.i64.wrap (s.til - s.fr) = s.til - s.fr:=IntWalk.i64_in _ (by omega)
   rcases Nat.eq_zero_or_pos i with h0 | hpos9
   ·have hi1:decide ((0:Int) < (i:Int)) = false:=by simp;omega
    have hi2:decide (0 < i) = false:=by simp;omega
    go_upto_region 14 with (fail)
    clear y2
    (refine wp_region_det 30 136 (fun W => Below (W6).heap.size (W6) W) (by kernel_rfl) (by kernel_rfl) (by rfl) (Below.refl _ _).drew ?_;simp only [List.take_succ_cons,List.take_zero,List.drop_succ_cons,List.drop_zero])
    iterate 10 (refine detSeq_op rfl ?_ (fun W hW => ?_) ?_;rotate_left;(focus simp only [OpV];go_simp;first | exact rfl | exact ⟨rfl,hW⟩))
    (refine detSeq_op rfl (.bool false) (fun W hW => ?_) ?_;focus (simp only [OpV];go_simp;all_goals (first | exact rfl | exact hW | exact ⟨by rw [ht1],hW⟩ | exact ⟨by simp;omega,hW⟩ | (intro h;omega) | omega)))
    iterate 1 (refine detSeq_op rfl ?_ (fun W hW => ?_) ?_;rotate_left;(focus simp only [OpV];go_simp;first | exact rfl | exact ⟨rfl,hW⟩))
    iterate 1 (refine detSeq_yes (by kernel_rfl) ?_ (fun W hW => ?_) ?_;rotate_left;(focus simp only [OpV];go_simp;first | exact rfl | exact ⟨rfl,hW⟩))
    (refine detSeq_yes (by kernel_rfl) (.bool false) (fun W hW => ?_) ?_;focus (simp only [OpV];go_simp;all_goals (first | exact rfl | exact hW | exact ⟨by rw [hi1],hW⟩ | exact ⟨by simp;omega,hW⟩ | (intro h;omega) | omega)))
    iterate 1 (refine detSeq_yes (by kernel_rfl) ?_ (fun W hW => ?_) ?_;rotate_left;(focus simp only [OpV];go_simp;first | exact rfl | exact ⟨rfl,hW⟩))
    iterate 14 (refine detSeq_no (by kernel_rfl) ?_)
    iterate 1 (refine detSeq_yes (by kernel_rfl) ?_ (fun W hW => ?_) ?_;rotate_left;(focus simp only [OpV];go_simp;first | exact rfl | exact ⟨rfl,hW⟩))
    refine detSeq_nil (fun W7 hW7 => ?_)
    have HB7:=Lib.hid (HB56.out.trans (hW7.mono HB56.out.size))
    have x0:=Y0 _ hW7
    have x1:=Y1 _ hW7
    have HZ1:=Lib.hid (lift_cell (Y2 _ hW7))
    clear hW7 Y0 Y1 Y2 F9
    go_wp2_with fail
    refine (HBU.out (s.til - s.fr) HLM.1 HLM.2 _ (HBA.out.trans (HB7.out.mono HBA.out.size))).mono ?_
    rintro e W8 ⟨⟨fr2,mo,rfl,hB⟩,hb8⟩
    have hmo:=HMO.out mo hB
    have hm1:decide (mo < (s.many:Int)) = false:=by simp;omega
    have v1:=HZ1.out _ hb8
    have HF8:=Lib.hid (HBX.out.trans ((HB7.out.trans (hb8.mono HB7.out.size)).mono HBX.out.size))
    clear hB hb8 x0 x1 hmo
    go_wp2_with fail
    go_roundw
    case rel => exact ⟨i + 1,by omega,by go_num,by rw [HPN.out],HF8⟩
    case measure => simp [intOf];omega
   ·obtain ⟨p,hp⟩:∃ p,i = p + 1:=⟨i - 1,by omega⟩
    have hpl:p < ss.length:=by omega
    have hG:=HGP.out p hpl hp
    have hT:=HTB.out p hpl
    have P1:=lift_cell (hel.out p hpl W6 (HBA.out.trans (HB56.out.mono HBA.out.size)))
    generalize ss[p].til = pt at *
    have hi1:decide ((0:Int) < (i:Int)) = true:=by simp;omega
    have hi2:decide (0 < i) = true:=by simp;omega
    have a2:(i:Int) - 1 = (p:Int):=by omega
    have a3:(p:Int) < ss.length:=by omega
    have a4:IntKind.i64.wrap (p:Int) = (p:Int):=IntWalk.i64_in _ (by omega)
    have w5:IntKind.i64.wrap (pt - 1) = pt - 1:=IntWalk.i64_in _ (by omega)
    have w6:IntKind.i64.wrap (s.fr - (pt - 1)) = s.fr - (pt - 1):=IntWalk.i64_in _ (by omega)
    have dg:decide (s.fr - (pt - 1) ≤ gap) = false:=by simp;omega
    go_upto_region 14 with (fail)
    clear y2
    (refine wp_region_det 30 136 (fun W => Below (W6).heap.size (W6) W) (by kernel_rfl) (by kernel_rfl) (by rfl) (Below.refl _ _).drew ?_;simp only [List.take_succ_cons,List.take_zero,List.drop_succ_cons,List.drop_zero])
    iterate 10 (refine detSeq_op rfl ?_ (fun W hW => ?_) ?_;rotate_left;(focus simp only [OpV];go_simp;first | exact rfl | exact ⟨rfl,hW⟩))
    (refine detSeq_op rfl (.bool false) (fun W hW => ?_) ?_;focus (simp only [OpV];go_simp;all_goals (first | exact rfl | exact hW | exact ⟨by rw [ht1],hW⟩ | exact ⟨by simp;omega,hW⟩ | (intro h;omega) | omega)))
    iterate 1 (refine detSeq_op rfl ?_ (fun W hW => ?_) ?_;rotate_left;(focus simp only [OpV];go_simp;first | exact rfl | exact ⟨rfl,hW⟩))
    iterate 1 (refine detSeq_yes (by kernel_rfl) ?_ (fun W hW => ?_) ?_;rotate_left;(focus simp only [OpV];go_simp;first | exact rfl | exact ⟨rfl,hW⟩))
    (refine detSeq_yes (by kernel_rfl) (.bool true) (fun W hW => ?_) ?_;focus (simp only [OpV];go_simp;all_goals (first | exact rfl | exact hW | exact ⟨by rw [hi1],hW⟩ | exact ⟨by simp;omega,hW⟩ | (intro h;omega) | omega)))
    iterate 1 (refine detSeq_yes (by kernel_rfl) ?_ (fun W hW => ?_) ?_;rotate_left;(focus simp only [OpV];go_simp;first | exact rfl | exact ⟨rfl,hW⟩))
    iterate 13 (refine detSeq_yes (by kernel_rfl) ?_ (fun W hW => ?_) ?_;rotate_left;(focus simp only [OpV];go_simp;first | exact rfl | exact ⟨rfl,hW⟩))
    (refine detSeq_yes (by kernel_rfl) (.bool false) (fun W hW => ?_) ?_;focus (simp only [OpV];go_simp;all_goals (first | exact rfl | exact hW | exact ⟨by rw [dg],hW⟩ | exact ⟨by simp;omega,hW⟩ | (intro h;omega) | omega)))
    iterate 1 (refine detSeq_yes (by kernel_rfl) ?_ (fun W hW => ?_) ?_;rotate_left;(focus simp only [OpV];go_simp;first | exact rfl | exact ⟨rfl,hW⟩))
    refine detSeq_nil (fun W7 hW7 => ?_)
    clear P1
    have HB7:=Lib.hid (HB56.out.trans (hW7.mono HB56.out.size))
    have x0:=Y0 _ hW7
    have x1:=Y1 _ hW7
    have HZ1:=Lib.hid (lift_cell (Y2 _ hW7))
    clear hW7 Y0 Y1 Y2 F9
    go_wp2_with fail
    refine (HBU.out (s.til - s.fr) HLM.1 HLM.2 _ (HBA.out.trans (HB7.out.mono HBA.out.size))).mono ?_
    rintro e W8 ⟨⟨fr2,mo,rfl,hB⟩,hb8⟩
    have hmo:=HMO.out mo hB
    have hm1:decide (mo < (s.many:Int)) = false:=by simp;omega
    have v1:=HZ1.out _ hb8
    have HF8:=Lib.hid (HBX.out.trans ((HB7.out.trans (hb8.mono HB7.out.size)).mono HBX.out.size))
    clear hB hb8 x0 x1 hmo
    go_wp2_with fail
    go_roundw
    case rel => exact ⟨i + 1,by omega,by go_num,by rw [HPN.out],HF8⟩
    case measure => simp [intOf];omega
  ·have hie:i = ss.length:=by omega
   subst hie
   have hsum:=HALL.out.sum
   have HHA:=Lib.hid (fun W (hW:H5.In W) => happenings_any H5 HU5.out HM5.out W hW)
   rw [hsum]
   have HIW:=Lib.hid hin
   have HFB:=Lib.hid (HBW.out.trans (hb.out.mono HBW.out.size))
   clear hsum hin hb
   go_wp2_with fail
   refine (HHA.out _ HIW.out).mono ?_
   rintro e W9 ⟨rfl,hb9⟩
   have HF:=Lib.hid (HFB.out.trans (hb9.mono HFB.out.size))
   clear hb9
   go_wp2_with fail
   exact bodyPost_ret (by kernel_rfl) rfl ⟨rfl,HF.out⟩
end Go.Proofs.YtfmnlpmgakgleaaGreatDoor
