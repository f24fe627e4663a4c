/- A record's values are told by the touches that Sources names: the law. -/
import Derived.Test.YtbidhpgjmcedaaaGreatDoorGBP
import Derived.Test.YtbidhpgjmcedaaaGreatDoorGCG
import Derived.Test.YtbidhpgjmcedaaaGreatDoorGCH
namespace Go.Proofs.YtbidhpgjmcedaaaGreatDoor
set_option linter.unusedVariables false
open Go.RowKit
set_option maxHeartbeats 2000000 in
set_option maxRecDepth 100000 in
theorem rec1_any (H : Frz) (p : PerD) (xb : Nat) (k : IdD) (w : World) (hH : H.In w) (h0 : H.cell? ⟨xb,0,none⟩ = some (.int .i64 k.kind)) (h1 : H.cell? ⟨xb,1,none⟩ = some (.string k.text)) :
  Calls Tryz.prog 40 #[.agg #[fPer p 0,fPer p 1,fPer p 2,fPer p 3],.pointer (some ⟨xb,0,none⟩)] w fun e w' => e = .returned (.bool (eqId p.key k)) ∧ Below w.heap.size w w':=by
 obtain ⟨⟨a,s⟩,na,nc,nos,ia,ic,ids⟩:=p
 obtain ⟨a2,s2⟩:=k
 simp only [fPer] at *
 have HB:=Lib.hid (new1 (w:=w) (.cells #[.int .i64 a,.string s,.slice na nos.length nc,.slice ia ids.length ic] 64))
 have hi:=hH.alloc (.cells #[.int .i64 a,.string s,.slice na nos.length nc,.slice ia ids.length ic] 64)
 have z0 : (w.alloc (.cells #[.int .i64 a,.string s,.slice na nos.length nc,.slice ia ids.length ic] 64)).cell? ⟨w.heap.size,0,none⟩ = some (.int .i64 a):=newc 0 rfl
 have z1 : (w.alloc (.cells #[.int .i64 a,.string s,.slice na nos.length nc,.slice ia ids.length ic] 64)).cell? ⟨w.heap.size,1,none⟩ = some (.string s):=newc 1 rfl
 have x0:=hi.cell h0
 have x1:=hi.cell h1
 have HV : Hid (eqId ⟨a,s⟩ ⟨a2,s2⟩ = (decide (a = a2) && eqS s s2)):=rfl
 clear hH hi h0 h1
 go_enter Tryz.func40,Tryz.ntmps40
 go_upto_region 1 with (fail)
 generalize w.alloc (.cells #[.int .i64 a,.string s,.slice na nos.length nc,.slice ia ids.length ic] 64) = W1 at *
 cases k1 : (a == a2) with
 | false =>
  have hq : eqId ⟨a,s⟩ ⟨a2,s2⟩ = false:=by
   rw [HV.out]
   have : decide (a = a2) = false:=by simpa using k1
   rw [this]; rfl
  have HQ:=Lib.hid hq
  clear HV hq
  go_wp2_with fail
  go_ret
  exact ⟨ret_bool' HQ.out.symm,HB.out⟩
 | true =>
  cases k2 : (s.toList == s2.toList) with
  | false =>
   have hq : eqId ⟨a,s⟩ ⟨a2,s2⟩ = false:=by
    rw [HV.out]
    cases e : eqS s s2 with
    | false => simp
    | true => rw [eqS_iff.1 e] at k2; simp at k2
   have HQ:=Lib.hid hq
   clear HV hq
   go_wp2_with fail
   go_ret
   exact ⟨ret_bool' HQ.out.symm,HB.out⟩
  | true =>
   have hq : eqId ⟨a,s⟩ ⟨a2,s2⟩ = true:=by
    have h1 : a = a2:=by simpa using k1
    have h2 : s = s2:=eqS_iff.1 k2
    subst h1 h2
    exact eqId_self _
   have HQ:=Lib.hid hq
   clear HV hq
   go_wp2_with fail
   go_ret
   exact ⟨ret_bool' HQ.out.symm,HB.out⟩
theorem rec_cls {J : IdD → Bool} {ts : List TchD} {rr : List Nat} {ps : List PerD} (hu : Uf (Share J ts) rr) (hq : PersQ J ts (repN rr) ps) {i : Nat} (hi : i < ps.length) (hf : ∀ j (hj : j < ps.length),j < i → ps[j].key ≠ ps[i].key) :
  ∃ C : List Nat,(∀ q ∈ C,q < ts.length) ∧ ps[i].nos = C.map (fun q => (tAt ts q).no) ∧ ∀ rr2 k2,Uf (Share J ts) rr2 → KeyAt J ts (repN rr2) ps[i].key k2 → ∀ h : k2 < (rts (repN rr2) ts.length).length,cls (repN rr2) ts.length (rts (repN rr2) ts.length)[k2] = C:=by
 have hk:=key_at hq hi hf
 have hkr:=hk.lt
 refine ⟨cls (repN rr) ts.length (rts (repN rr) ts.length)[i],fun q hq2 => cls_lt hq2,hq.nos i hkr hi,fun rr2 k2 hu2 hk2 h => ?_⟩
 have e : repN rr2 = repN rr:=funext fun j => hu2.rep_eq hu j
 simp only [e] at hk2 h ⊢
 have e2:=hk2.uniq hk
 subst e2
 rfl
theorem contains_eq {l : List Int} {x : Int} : l.contains x = true ↔ x ∈ l:=by simp
theorem told_eq {surs : List SurD} {ts : List TchD} (hno : ts.Pairwise fun a b => a.no < b.no) {C : List Nat} (hC : ∀ q ∈ C,q < ts.length) {nos : List Int} (hn : nos = C.map fun q => (tAt ts q).no) {fs : List FD} (h : RecD surs (tellA ts C) fs) {f : FD} (hf : f ∈ fs) {l : Nat} (hl : l < ts.length) :
  (anyF (eqFd f) ts[l].fields && nos.contains ts[l].no) = (srcL surs (tellA ts C) f.name).contains ts[l].no:=by
 rw [Bool.eq_iff_iff,Bool.and_eq_true,contains_eq,contains_eq,srcs_iff hno hC (h.val f hf).2 hl,hn]
 have : anyF (eqFd f) ts[l].fields = true ↔ f ∈ ts[l].fields:=by
  unfold anyF
  rw [List.any_eq_true]
  exact ⟨fun ⟨y,hy,e⟩ => by rw [eqFd_iff.1 e]; exact hy,fun h => ⟨f,h,eqFd_iff.2 rfl⟩⟩
 rw [this]
set_option maxHeartbeats 8000000 in
set_option maxRecDepth 100000 in
theorem recordsAreTold_walk (a0 : Option Addr) (len0 cap0 : Nat) (z0 : List Int) (w : World) (w0 : IsRow .i64 w a0 len0 cap0 z0) (hG : GlobP w) :
  Calls Tryz.prog 7 #[.slice a0 len0 cap0] w fun e w' => e = .returned (.bool true) ∧ Below w.heap.size w w':=by
 have L:=Lw.whole w0
 have HPE:=Lib.hid (fun W hW => people_any (memH w) hG.utf hG.mlen W hW)
 have HG:=Lib.hid hG
 clear hG w0
 go_enter Tryz.func7,Tryz.ntmps7
 go_wp2_with fail
 refine (L.rightRules_of (by omega) HG.out.pool HG.out.names HG.out.mlen (fun K H W h1 h2 h3 h4 => joinsMake _ _ K H W h1 h2 h3 h4)).mono ?_
 rintro e W1 ⟨r,H1,rfl,le1,-,L1,-,hri,hsz,hr0,hwk⟩
 have HL1:=Lib.hid L1
 have HLE1:=Lib.hid le1
 have HRI:=Lib.hid hri
 have HSZ:=Lib.hid hsz
 have HR0:=Lib.hid hr0
 have HWK:=Lib.hid hwk
 clear L L1 le1 hri hsz hr0 hwk
 go_wp2_with fail
 refine (HL1.out.range 1 10 (by omega) (by omega) (by omega) (by omega)).mono ?_
 rintro e W2 ⟨n,rfl,n0,n1,Lq,-,-⟩
 have HL2:=Lib.hid Lq
 clear Lq HL1
 obtain ⟨m,rfl⟩:=Int.eq_ofNat_of_zero_le (show (0 : Int) ≤ n by omega)
 go_wp2_with fail
 refine (HL2.out.rightTouches (by omega) (HG.out.pool.le HLE1.out) (HG.out.names.le HLE1.out) (HG.out.utf.le HLE1.out) (HG.out.mlen.le HLE1.out) m (by omega)).mono ?_
 rintro e W3 ⟨v,ts,H2,rfl,le2,-,C3,hok,hlen⟩
 obtain ⟨A,cap,H3,rfl,hcap,le3,L3,R3,-⟩:=C3.1.frozen2
 have HT : Hid (Told H3 A r ts):=⟨R3,fun t ht => (hok.inn t ht).le le3,(HRI.out.le le2).le le3,HSZ.out,HR0.out,hok.right,by omega⟩
 have HLE3:=Lib.hid (HLE1.out.trans (le2.trans le3))
 have HIN3:=Lib.hid L3.fin
 have HB3:=Lib.hid L3.bel
 have hln:=HT.out.len
 clear C3 L3 R3 le2 le3 hok HL2 HRI HSZ HLE1
 have HU3:=Lib.hid (HG.out.utf.le HLE3.out)
 have HM3:=Lib.hid (HG.out.mlen.le HLE3.out)
 have HPE3 : Hid (∀ W,H3.In W → Calls Tryz.prog 15 #[] W fun e w' => e = .returned (.bool true) ∧ Below W.heap.size W w'):=fun W hW => HPE.out W (hW.le HLE3.out)
 clear HPE HG HLE3
 have HNW:=Lib.hid (new1 (w:=W3) (.cells #[.slice r.ka r.kinds.length r.kc,.int .i64 r.most,.slice r.wa r.weaks.length r.wc,.slice r.sa r.surs.length r.sc] 44))
 have HRB:=Lib.hid (heap_alloc_new W3 (.cells #[.slice r.ka r.kinds.length r.kc,.int .i64 r.most,.slice r.wa r.weaks.length r.wc,.slice r.sa r.surs.length r.sc] 44))
 go_upto_region 3 with (fail)
 generalize W3.alloc (.cells #[.slice r.ka r.kinds.length r.kc,.int .i64 r.most,.slice r.wa r.weaks.length r.wc,.slice r.sa r.surs.length r.sc] 44) = W4 at *
 have HIN4:=Lib.hid (HIN3.out.below HNW.out)
 have HB4:=Lib.hid (HB3.out.trans (HNW.out.mono HB3.out.size))
 generalize W3.heap.size = rb at *
 clear HNW HIN3 HB3
 have HP2:=Lib.hid (fun W hW => persons_told H3 HU3.out HM3.out A cap r ts HT.out W hW)
 have z0:=cell_h HRB.out 0 (v:=.slice r.ka r.kinds.length r.kc) rfl
 have z1:=cell_h HRB.out 1 (v:=.int .i64 r.most) rfl
 have z2:=cell_h HRB.out 2 (v:=.slice r.wa r.weaks.length r.wc) rfl
 have z3:=cell_h HRB.out 3 (v:=.slice r.sa r.surs.length r.sc) rfl
 go_wp2_with fail
 refine (HP2.out W4 HIN4.out).mono ?_
 rintro e W5 ⟨hb5,Ap,cp,ps,rr,rfl,hu1,hp1,hq1,hcp⟩
 have HRB5 : Hid (W5.heap[rb]? = some (.cells #[.slice r.ka r.kinds.length r.kc,.int .i64 r.most,.slice r.wa r.weaks.length r.wc,.slice r.sa r.surs.length r.sc] 44 (0,0))):=(hb5.block rb (lt_of_heap HRB.out)).trans HRB.out
 have HB5:=Lib.hid (HB4.out.trans (hb5.mono HB4.out.size))
 have HU:=Lib.hid hu1
 have HQ:=Lib.hid hq1
 have HPA:=Lib.hid hp1
 have hl35 : H3.Le (wholeH W5):=fun b o h => (HIN4.out.below hb5) b o h
 have HT5:=Lib.hid (HT.out.le hl35)
 have HU5:=Lib.hid (HU3.out.le hl35)
 have HM5:=Lib.hid (HM3.out.le hl35)
 have HPE5 : Hid (∀ W,(wholeH W5).In W → Calls Tryz.prog 15 #[] W fun e w' => e = .returned (.bool true) ∧ Below W.heap.size W w'):=fun W hW => HPE3.out W (hW.le hl35)
 have HRB6 : Hid (wholeH W5 rb = some (.cells #[.slice r.ka r.kinds.length r.kc,.int .i64 r.most,.slice r.wa r.weaks.length r.wc,.slice r.sa r.surs.length r.sc] 44 (0,0))):=HRB5.out
 have HIN5 : Hid ((wholeH W5).In W5):=wholeH_in W5
 have HRIS:=Lib.hid HT.out.rising
 have hpn:=pers_sz hq1 hln
 have HSUM:=Lib.hid (pers_sum hu1 hq1)
 have HR9:=Lib.hid (tchs_right (HT.out.right.all (by omega))).2.1
 have HPIL:=Lib.hid (fun p (hp : p ∈ ps) => pers_ids_len hq1 (fun t ht => by have:=(HT.out.inn t ht).il; omega) hln hp)
 have hpl : ps.length ≤ 100:=by rw [hq1.len]; exact Nat.le_trans (rts_le _ _) hln
 clear hb5 hu1 hp1 hq1 hl35 z0 z1 z2 z3 HP2 HT HU3 HM3 HPE3 HIN4 HB4 HRB HRB5
 generalize hH5 : wholeH W5 = H5 at *
 clear hH5
 go_wp2_with fail
 go_loopw [38] (fun t wr => ∃ i : Nat,i ≤ ps.length ∧ t = .int .i64 i ∧ Hid (Below W5.heap.size W5 wr)) (fun t _ => ps.length - (intOf t).toNat)
 case atStart => exact ⟨0,by omega,rfl,Below.refl _ _⟩
 case round =>
  obtain ⟨i,hi,rfl,hb⟩:=hrel
  have hin:=HIN5.out.below hb.out
  by_cases hlt : i < ps.length
  ·obtain ⟨b,off,hA,hbl,hc⟩:=HPA.out.1.at_ hin hlt (by omega)
   have c0 : wr.cell? ⟨b,off + i * 4,none⟩ = some (.int .i64 ps[i].key.kind):=hc 0 (by omega)
   have c1 : wr.cell? ⟨b,off + i * 4 + 1,none⟩ = some (.string ps[i].key.text):=hc 1 (by omega)
   have c2 : wr.cell? ⟨b,off + i * 4 + 2,none⟩ = some (.slice ps[i].na ps[i].nos.length ps[i].nc):=hc 2 (by omega)
   have c3 : wr.cell? ⟨b,off + i * 4 + 3,none⟩ = some (.slice ps[i].ia ps[i].ids.length ps[i].ic):=hc 3 (by omega)
   have HPI:=Lib.hid (HPA.out.2 _ (List.getElem_mem hlt))
   have hpni:=hpn.2 _ (List.getElem_mem hlt)
   have HCL0:=Lib.hid (fun hf => rec_cls HU.out HQ.out hlt hf)
   have HKA:=Lib.hid (fun hf => key_at HQ.out hlt hf)
   have hke : idErr ps[i].key.kind ps[i].key.text = 0:=by
    obtain ⟨t,htm,hx⟩:=key_mem HQ.out (fun t htm e => by have:=(HR9.out t htm).len; rw [e] at this; simp at this) hlt
    exact (HR9.out t htm).idE _ hx
   have HFST : Hid (anyF (fun y : PerD => eqId y.key ps[i].key) (ps.take i) = false → ∀ j (hj : j < ps.length),j < i → ps[j].key ≠ ps[i].key):=fun h j hj hji e => by
    have h1:=List.any_eq_false.1 h ps[j] (List.mem_take_iff_getElem.2 ⟨j,by omega,rfl⟩)
    exact h1 (eqId_iff.2 e)
   subst hA
   clear hc hbl
   have HKE:=Lib.hid hke
   clear hke
   generalize ps[i] = x at *
   have z0 : (wr.alloc (.cells #[.int .i64 x.key.kind,.string x.key.text,.slice x.na x.nos.length x.nc,.slice x.ia x.ids.length x.ic] 64)).cell? ⟨wr.heap.size,0,none⟩ = some (.int .i64 x.key.kind):=newc 0 rfl
   have z1 : (wr.alloc (.cells #[.int .i64 x.key.kind,.string x.key.text,.slice x.na x.nos.length x.nc,.slice x.ia x.ids.length x.ic] 64)).cell? ⟨wr.heap.size,1,none⟩ = some (.string x.key.text):=newc 1 rfl
   have z2 : (wr.alloc (.cells #[.int .i64 x.key.kind,.string x.key.text,.slice x.na x.nos.length x.nc,.slice x.ia x.ids.length x.ic] 64)).cell? ⟨wr.heap.size,2,none⟩ = some (.slice x.na x.nos.length x.nc):=newc 2 rfl
   have z3 : (wr.alloc (.cells #[.int .i64 x.key.kind,.string x.key.text,.slice x.na x.nos.length x.nc,.slice x.ia x.ids.length x.ic] 64)).cell? ⟨wr.heap.size,3,none⟩ = some (.slice x.ia x.ids.length x.ic):=newc 3 rfl
   have HBN:=Lib.hid (new1 (w:=wr) (.cells #[.int .i64 x.key.kind,.string x.key.text,.slice x.na x.nos.length x.nc,.slice x.ia x.ids.length x.ic] 64))
   have HHC:=heap_alloc_new wr (.cells #[.int .i64 x.key.kind,.string x.key.text,.slice x.na x.nos.length x.nc,.slice x.ia x.ids.length x.ic] 64)
   go_upto_region 9 with (fail)
   clear c0 c1 c2 c3
   generalize wr.alloc (.cells #[.int .i64 x.key.kind,.string x.key.text,.slice x.na x.nos.length x.nc,.slice x.ia x.ids.length x.ic] 64) = W7 at *
   have HB7:=Lib.hid (hb.out.trans (HBN.out.mono hb.out.size))
   have hin7:=hin.below HBN.out
   have hle7 : H5.Le (wholeH W7):=fun b o h => hin7 b o h
   have hti : (ps.take i).length = i:=by rw [List.length_take]; omega
   have HCF:=Lib.hid (containsFunc_Per (wholeH W7) fPer 40 [.pointer (some ⟨wr.heap.size,0,none⟩)] (fun y => eqId y.key x.key) (ps.take i) (fun W d hd hW => rec1_any (wholeH W7) d wr.heap.size x.key W hW (wholeH_cell (cell_h HHC 0 rfl)) (wholeH_cell (cell_h HHC 1 rfl))) (fun _ _ => by kernel_rfl) (some ⟨b,off,none⟩) cp W7 (wholeH_in W7) ((HPA.out.1.le hle7).take i) (by omega))
   rw [hti] at HCF
   have HXB:=Lib.hid HHC
   clear HHC hle7 hin7 hin hb z0 z1 z2 z3 HBN hti
   generalize wr.heap.size = xb at *
   have a3 : (0 : Int) ≤ (i : Int):=by omega
   have a4 : (i : Int) ≤ cp:=by omega
   go_wp2_with fail
   clear a3 a4
   refine HCF.out.mono ?_
   rintro e W8 ⟨rfl,hb8⟩
   have HB8:=Lib.hid (HB7.out.trans (hb8.mono HB7.out.size))
   have HXB8 : Hid (W8.heap[xb]? = some (.cells #[.int .i64 x.key.kind,.string x.key.text,.slice x.na x.nos.length x.nc,.slice x.ia x.ids.length x.ic] 64 (0,0))):=(hb8.block xb (lt_of_heap HXB.out)).trans HXB.out
   clear hb8 HCF HXB HB7
   generalize anyF (fun y : PerD => eqId y.key x.key) (ps.take i) = fb at *
   cases fb with
   | true =>
    clear HCL0 HKA HFST HPI
    go_wp2_with fail
    go_roundw
    case rel => exact ⟨i + 1,by omega,by go_num,HB8⟩
    case measure => simp [intOf]; omega
   | false =>
    have hf:=HFST.out rfl
    have HKI : Hid (KeyIn (JD r ts) ts x.key):=⟨rr,i,HU.out,HKA.out hf⟩
    obtain ⟨C,hC1,hC2,hC3⟩:=HCL0.out hf
    have HC1:=Lib.hid hC1
    have HC2:=Lib.hid hC2
    have HC3:=Lib.hid hC3
    have HRC:=Lib.hid (Record_any H5 HU5.out HM5.out r A cap ts HT5.out x.key HKI.out HKE.out W8 (HIN5.out.below HB8.out))
    have hrb8:=(HIN5.out.below HB8.out) rb _ HRB6.out
    have q0:=cell_h hrb8 0 (v:=.slice r.ka r.kinds.length r.kc) rfl
    have q1:=cell_h hrb8 1 (v:=.int .i64 r.most) rfl
    have q2:=cell_h hrb8 2 (v:=.slice r.wa r.weaks.length r.wc) rfl
    have q3:=cell_h hrb8 3 (v:=.slice r.sa r.surs.length r.sc) rfl
    have y0:=cell_h HXB8.out 0 (v:=.int .i64 x.key.kind) rfl
    have y1:=cell_h HXB8.out 1 (v:=.string x.key.text) rfl
    clear hf hrb8 HKA HFST HCL0 hC1 hC2 hC3
    go_wp2_with fail
    refine HRC.out.mono ?_
    rintro e W9 ⟨hb9,rr2,k2,vF,fs,rfl,hu2,hk2,oF,hfl,hrd⟩
    have hrd2:=hrd hk2.lt
    rw [HC3.out rr2 k2 hu2 hk2 hk2.lt] at hrd2
    have HRD:=Lib.hid hrd2
    have HB9:=Lib.hid (HB8.out.trans (hb9.mono HB8.out.size))
    have HXB9 : Hid (W9.heap[xb]? = some (.cells #[.int .i64 x.key.kind,.string x.key.text,.slice x.na x.nos.length x.nc,.slice x.ia x.ids.length x.ic] 64 (0,0))):=(hb9.block xb (lt_of_heap HXB8.out)).trans HXB8.out
    obtain ⟨fA,fc,rfl,-,hrF⟩:=oF.memR
    have HRF : Hid (Rw (wholeH W9) fA 4 fFd fs):=hrF
    have h59 : H5.Le (wholeH W9):=fun b o h => (HIN5.out.below HB9.out) b o h
    have hfe : fdsE okT fs = 0:=rec_right HC1.out hrd2 (told_fields HT5.out) hfl
    have HSZ : Hid (∀ f ∈ fs,f.name.size ≤ 1000 ∧ f.v.text.size ≤ 1000):=fun f hf => by
     obtain ⟨t,ht,h⟩:=rec_told HC1.out hrd2 hf
     exact (HT5.out.inn t ht).fdt.sz h
    have HCK:=Lib.hid (checkFields_any (wholeH W9) (HU5.out.le h59) fA fc fs W9 (wholeH_in W9) hrF (by omega) (fun f hf => by have:=HSZ.out f hf; omega))
    rw [hfe] at HCK
    clear hb9 hu2 hk2 oF hrd hrd2 hrF h59 hfe HRC q0 q1 q2 q3 y0 y1 HB8 HXB8
    go_wp2_with fail
    refine HCK.out.mono ?_
    rintro e W10 ⟨rfl,hb10⟩
    have HBA : Hid (Below W9.heap.size W9 W10):=hb10
    clear hb10 HCK
    go_wp2_with fail
    go_loopw [65] (fun t wr => ∃ j : Nat,j ≤ fs.length ∧ t = .int .i64 j ∧ Hid (Below W9.heap.size W9 wr)) (fun t _ => fs.length - (intOf t).toNat)
    case atStart => exact ⟨0,by omega,rfl,HBA⟩
    case round =>
     clear HBA
     obtain ⟨j,hj,rfl,hb⟩:=hrel
     by_cases hltj : j < fs.length
     ·have HIN9:=Lib.hid ((wholeH_in W9).below hb.out)
      obtain ⟨b2,off2,hA2,hbl2,hc2⟩:=HRF.out.at_ HIN9.out hltj (by omega)
      have c0 : wr.cell? ⟨b2,off2 + j * 4,none⟩ = some (.string fs[j].name):=hc2 0 (by omega)
      have c1 : wr.cell? ⟨b2,off2 + j * 4 + 1,none⟩ = some (.int .i64 fs[j].v.kind):=hc2 1 (by omega)
      have c2 : wr.cell? ⟨b2,off2 + j * 4 + 2,none⟩ = some (.string fs[j].v.text):=hc2 2 (by omega)
      have c3 : wr.cell? ⟨b2,off2 + j * 4 + 3,none⟩ = some (.int .i64 fs[j].v.num):=hc2 3 (by omega)
      have HFM:=Lib.hid (List.getElem_mem hltj)
      have hltj2 : (j : Int) < fs.length:=by omega
      subst hA2
      clear hc2 hbl2
      generalize fs[j] = f at *
      have HFB0:=heap_alloc_new wr (.cells #[.string f.name,.int .i64 f.v.kind,.string f.v.text,.int .i64 f.v.num] 78)
      have HN1:=Lib.hid (new1 (w:=wr) (.cells #[.string f.name,.int .i64 f.v.kind,.string f.v.text,.int .i64 f.v.num] 78))
      go_upto_region 16 with (fail)
      clear c0 c1 c2 c3
      have HBB:=Lib.hid (hb.out.trans (HN1.out.mono hb.out.size))
      have HFB:=Lib.hid HFB0
      clear HFB0 hb HN1 HIN9
      generalize wr.alloc (.cells #[.string f.name,.int .i64 f.v.kind,.string f.v.text,.int .i64 f.v.num] 78) = W11 at *
      generalize wr.heap.size = fb at *
      have HBC:=Lib.hid (HB9.out.trans (HBB.out.mono HB9.out.size))
      have hfn : FitN f.name:=by have:=(HSZ.out f HFM.out).1; show _ ≤ _; omega
      have HTN:=Lib.hid (HRD.out.val f HFM.out).1
      have HSR:=Lib.hid (Sources_any H5 HU5.out HM5.out r A cap ts HT5.out x.key HKI.out HKE.out f.name hfn (fun rr k h1 h2 h3 => by rw [HC3.out rr k h1 h2 h3]; exact HTN.out) W11 (HIN5.out.below HBC.out))
      have hrb8:=(HIN5.out.below HBC.out) rb _ HRB6.out
      have hxb8:=(HBB.out.block xb (lt_of_heap HXB9.out)).trans HXB9.out
      have q0:=cell_h hrb8 0 (v:=.slice r.ka r.kinds.length r.kc) rfl
      have q1:=cell_h hrb8 1 (v:=.int .i64 r.most) rfl
      have q2:=cell_h hrb8 2 (v:=.slice r.wa r.weaks.length r.wc) rfl
      have q3:=cell_h hrb8 3 (v:=.slice r.sa r.surs.length r.sc) rfl
      have y0:=cell_h hxb8 0 (v:=.int .i64 x.key.kind) rfl
      have y1:=cell_h hxb8 1 (v:=.string x.key.text) rfl
      have f0:=cell_h HFB.out 0 (v:=.string f.name) rfl
      clear hrb8 hxb8 hfn
      go_wp2_with fail
      refine HSR.out.mono ?_
      rintro e W12 ⟨hb12,rr3,k3,vN,ns,rfl,hu3,hk3,oN,hnl,hns⟩
      have hns2:=hns hk3.lt
      rw [HC3.out rr3 k3 hu3 hk3 hk3.lt] at hns2
      have HNS:=Lib.hid hns2
      have HBD:=Lib.hid (HBB.out.trans (hb12.mono HBB.out.size))
      have HBE:=Lib.hid (HBC.out.trans (hb12.mono HBC.out.size))
      have HFB2:=Lib.hid ((hb12.block fb (lt_of_heap HFB.out)).trans HFB.out)
      obtain ⟨nA,nc,rfl,-,hrN⟩:=oN.memR
      have HRN : Hid (Rw (wholeH W12) nA 1 fI ns):=hrN
      have HTE:=Lib.hid (fun l (hl : l < ts.length) => told_eq HRIS.out HC1.out HC2.out HRD.out HFM.out hl)
      rw [← hns2] at HTE
      have hnz : ((ns.length : Int) == 0) = false:=by
       have:=List.length_pos_iff.2 (srcL_ne (surs:=r.surs) HTN.out)
       rw [← hns2] at this
       rw [beq_eq_false_iff_ne]
       omega
      clear hb12 hu3 hk3 oN hns hns2 hrN HSR q0 q1 q2 q3 y0 y1 f0 HBB HBC HFB HTN
      go_wp2_with fail
      clear hnz
      go_loopw [88] (fun t wr => ∃ l : Nat,l ≤ ts.length ∧ t = .int .i64 l ∧ Hid (Below W12.heap.size W12 wr)) (fun t _ => ts.length - (intOf t).toNat)
      case atStart => exact ⟨0,by omega,rfl,Below.refl _ _⟩
      case round =>
       obtain ⟨l,hl,rfl,hb⟩:=hrel
       have HIN12:=Lib.hid ((wholeH_in W12).below hb.out)
       have HI5:=Lib.hid (HIN5.out.below (HBE.out.trans (hb.out.mono HBE.out.size)))
       by_cases hltl : l < ts.length
       ·obtain ⟨b,off,hA,hbl,hc⟩:=HT5.out.row.at_ HI5.out hltl (by omega)
        have d0 : wr.cell? ⟨b,off + l * 5,none⟩ = some (.int .i64 ts[l].no):=hc 0 (by omega)
        have d1 : wr.cell? ⟨b,off + l * 5 + 1,none⟩ = some (.int .i64 ts[l].at_):=hc 1 (by omega)
        have d2 : wr.cell? ⟨b,off + l * 5 + 2,none⟩ = some (.string ts[l].source):=hc 2 (by omega)
        have d3 : wr.cell? ⟨b,off + l * 5 + 3,none⟩ = some (.slice ts[l].ia ts[l].ids.length ts[l].ic):=hc 3 (by omega)
        have d4 : wr.cell? ⟨b,off + l * 5 + 4,none⟩ = some (.slice ts[l].fa ts[l].fields.length ts[l].fc):=hc 4 (by omega)
        have HTI:=Lib.hid (HT5.out.inn _ (List.getElem_mem hltl))
        have HEQ:=Lib.hid (HTE.out l hltl)
        have hltl2 : (l : Int) < ts.length:=by omega
        subst hA
        clear hc hbl
        generalize ts[l] = u at *
        have z0 : (wr.alloc (.cells #[.int .i64 u.no,.int .i64 u.at_,.string u.source,.slice u.ia u.ids.length u.ic,.slice u.fa u.fields.length u.fc] 53)).cell? ⟨wr.heap.size,0,none⟩ = some (.int .i64 u.no):=newc 0 rfl
        have z1 : (wr.alloc (.cells #[.int .i64 u.no,.int .i64 u.at_,.string u.source,.slice u.ia u.ids.length u.ic,.slice u.fa u.fields.length u.fc] 53)).cell? ⟨wr.heap.size,1,none⟩ = some (.int .i64 u.at_):=newc 1 rfl
        have z2 : (wr.alloc (.cells #[.int .i64 u.no,.int .i64 u.at_,.string u.source,.slice u.ia u.ids.length u.ic,.slice u.fa u.fields.length u.fc] 53)).cell? ⟨wr.heap.size,2,none⟩ = some (.string u.source):=newc 2 rfl
        have z3 : (wr.alloc (.cells #[.int .i64 u.no,.int .i64 u.at_,.string u.source,.slice u.ia u.ids.length u.ic,.slice u.fa u.fields.length u.fc] 53)).cell? ⟨wr.heap.size,3,none⟩ = some (.slice u.ia u.ids.length u.ic):=newc 3 rfl
        have z4 : (wr.alloc (.cells #[.int .i64 u.no,.int .i64 u.at_,.string u.source,.slice u.ia u.ids.length u.ic,.slice u.fa u.fields.length u.fc] 53)).cell? ⟨wr.heap.size,4,none⟩ = some (.slice u.fa u.fields.length u.fc):=newc 4 rfl
        have HBN:=Lib.hid (new1 (w:=wr) (.cells #[.int .i64 u.no,.int .i64 u.at_,.string u.source,.slice u.ia u.ids.length u.ic,.slice u.fa u.fields.length u.fc] 53))
        have HHC:=heap_alloc_new wr (.cells #[.int .i64 u.no,.int .i64 u.at_,.string u.source,.slice u.ia u.ids.length u.ic,.slice u.fa u.fields.length u.fc] 53)
        go_upto_region 22 with (fail)
        clear d0 d1 d2 d3 d4
        generalize wr.alloc (.cells #[.int .i64 u.no,.int .i64 u.at_,.string u.source,.slice u.ia u.ids.length u.ic,.slice u.fa u.fields.length u.fc] 53) = W13 at *
        have HBF:=Lib.hid (hb.out.trans (HBN.out.mono hb.out.size))
        have HI13:=Lib.hid (HI5.out.below HBN.out)
        have HN13:=Lib.hid (HIN12.out.below HBN.out)
        have HTB:=Lib.hid HHC
        clear HHC hb HIN12 HI5 z0 z1 z2 z3 z4 HBN
        generalize wr.heap.size = tb at *
        have hfb:=HN13.out fb _ HFB2.out
        have f0:=cell_h hfb 0 (v:=.string f.name) rfl
        have f1:=cell_h hfb 1 (v:=.int .i64 f.v.kind) rfl
        have f2:=cell_h hfb 2 (v:=.string f.v.text) rfl
        have f3:=cell_h hfb 3 (v:=.int .i64 f.v.num) rfl
        have t4:=cell_h HTB.out 4 (v:=.slice u.fa u.fields.length u.fc) rfl
        have HCN:=Lib.hid (contains_Fd H5 u.fa u.fc u.fields f W13 HI13.out HTI.out.fds (by have:=HTI.out.fl; omega))
        clear hfb
        go_wp2_with fail
        refine HCN.out.mono ?_
        rintro e W14 ⟨rfl,hb14⟩
        have HBG:=Lib.hid (HBF.out.trans (hb14.mono HBF.out.size))
        have HI14:=Lib.hid (HI13.out.below hb14)
        have HN14:=Lib.hid (HN13.out.below hb14)
        have HTB4:=Lib.hid ((hb14.block tb (lt_of_heap HTB.out)).trans HTB.out)
        clear hb14 HCN f0 f1 f2 f3 t4 HBF HI13 HN13 HTB
        generalize anyF (eqFd f) u.fields = b1 at *
        have hxb9:=((HBD.out.trans (HBG.out.mono HBD.out.size)).block xb (lt_of_heap HXB9.out)).trans HXB9.out
        have x2:=cell_h hxb9 2 (v:=.slice x.na x.nos.length x.nc) rfl
        have t0:=cell_h HTB4.out 0 (v:=.int .i64 u.no) rfl
        have HC7:=Lib.hid (fun W (hW : (wholeH W12).In W) => contains_I (wholeH W12) nA nc ns u.no W hW HRN.out (by omega))
        cases b1 with
        | true =>
         have HEQ2 : Hid (x.nos.contains u.no = ns.contains u.no):=by have:=HEQ.out; rwa [Bool.true_and] at this
         have HC6:=Lib.hid (contains_I H5 x.na x.nc x.nos u.no W14 HI14.out HPI.out.1 hpni)
         clear hxb9 HEQ
         go_wp2_with fail
         refine HC6.out.mono ?_
         rintro e W15 ⟨rfl,hb15⟩
         have HBH:=Lib.hid (HBG.out.trans (hb15.mono HBG.out.size))
         have HN15:=Lib.hid (HN14.out.below hb15)
         have HTB5:=Lib.hid ((hb15.block tb (lt_of_heap HTB4.out)).trans HTB4.out)
         clear x2 t0 HC6 HBG HN14 HTB4 hb15
         rw [HEQ2.out]
         have t0:=cell_h HTB5.out 0 (v:=.int .i64 u.no) rfl
         have HC8:=Lib.hid (HC7.out W15 HN15.out)
         clear HC7 HEQ2
         generalize ns.contains u.no = b3 at *
         go_wp2_with fail
         refine HC8.out.mono ?_
         rintro e W16 ⟨rfl,hb16⟩
         have HBJ:=Lib.hid (HBH.out.trans (hb16.mono HBH.out.size))
         clear t0 HC8 HBH hb16 HN15 HTB5
         have hne : (b3 != b3) = false:=by cases b3 <;> rfl
         go_wp2_with fail
         go_roundw
         case rel => exact ⟨l + 1,by omega,by go_num,HBJ⟩
         case measure => simp [intOf]; omega
        | false =>
         have HEQ2 : Hid (ns.contains u.no = false):=by have:=HEQ.out; rw [Bool.false_and] at this; exact this.symm
         have HC8:=Lib.hid (HC7.out W14 HN14.out)
         rw [HEQ2.out] at HC8
         clear hxb9 HEQ HC7 HEQ2 x2
         go_wp2_with fail
         refine HC8.out.mono ?_
         rintro e W16 ⟨rfl,hb16⟩
         have HBJ:=Lib.hid (HBG.out.trans (hb16.mono HBG.out.size))
         clear t0 HC8 HBG hb16 HN14 HTB4
         go_wp2_with fail
         go_roundw
         case rel => exact ⟨l + 1,by omega,by go_num,HBJ⟩
         case measure => simp [intOf]; omega
       ·have hle : l = ts.length:=by omega
        subst hle
        have HBK:=Lib.hid (HBD.out.trans (hb.out.mono HBD.out.size))
        clear hb HIN12 HI5
        go_wp2_with fail
        go_roundw
        case rel => exact ⟨j + 1,by omega,by go_num,HBK⟩
        case measure => simp [intOf]; omega
     ·have hje : j = fs.length:=by omega
      subst hje
      have HBK:=Lib.hid (HB9.out.trans (hb.out.mono HB9.out.size))
      clear hb
      go_wp2_with fail
      go_roundw
      case rel => exact ⟨i + 1,by omega,by go_num,HBK⟩
      case measure => simp [intOf]; omega
  ·have hie : i = ps.length:=by omega
   subst hie
   have HBZ:=Lib.hid (HB5.out.trans (hb.out.mono HB5.out.size))
   clear hb
   have HINZ:=Lib.hid hin
   clear hin
   go_wp2_with fail
   refine (HPE5.out _ HINZ.out).mono ?_
   rintro e W7 ⟨rfl,hb7⟩
   have HF:=Lib.hid (HBZ.out.trans (hb7.mono HBZ.out.size))
   clear hb7
   go_wp2_with fail
   exact bodyPost_ret (by kernel_rfl) rfl ⟨rfl,HF.out⟩
end Go.Proofs.YtbidhpgjmcedaaaGreatDoor
