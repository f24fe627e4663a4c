/- Each touch is of one person, whose ids are those of its touches; a cut parts it, and no other id does: the law. -/
import Derived.Test.YtbidhpgjmcedaaaGreatDoorGBP
namespace Go.Proofs.YtbidhpgjmcedaaaGreatDoor
set_option linter.unusedVariables false
open Go.RowKit
set_option maxHeartbeats 8000000 in
set_option maxRecDepth 100000 in
theorem personsPart_walk (a0 : Option Addr) (len0 cap0 : Nat) (z0 : List Int) (w : World) (w0 : IsRow .i64 w a0 len0 cap0 z0) (hG : GlobP w) :
    Calls Tryz.prog 6 #[.slice a0 len0 cap0] w fun e w' => e = .returned (.bool true) ∧ Below w.heap.size w w' := by
  have L := Lw.whole w0
  have HPE := Lib.hid (fun W hW => people_any (memH w) hG.utf hG.mlen W hW)
  have HG := Lib.hid hG
  clear hG w0
  obtain ⟨j0, hj9, hj0, hj1, hj2⟩ := info_parts (show (Tryz.prog.info? 55).map (fun i => (i.zero, i.size, i.bytes)) = some (some (.agg #[.int .i64 0, .string ⟨#[]⟩]), 2, 24) by kernel_rfl)
  have HJ0 := Lib.hid hj9
  clear hj9
  go_enter Tryz.func6, Tryz.ntmps6
  go_wp2_with fail
  refine (L.rightRules_of (by omega) HG.out.pool HG.out.names HG.out.mlen (fun K H W h1 h2 h3 h4 => joinsMake _ _ K H W h1 h2 h3 h4)).mono ?_
  rintro e W1 ⟨r, H1, rfl, le1, -, L1, -, hri, hsz, hr0, hwk⟩
  have HL1 := Lib.hid L1
  have HLE1 := Lib.hid le1
  have HRI := Lib.hid hri
  have HSZ := Lib.hid hsz
  have HR0 := Lib.hid hr0
  have HWK := Lib.hid hwk
  clear L L1 le1 hri hsz hr0 hwk
  go_wp2_with fail
  refine (HL1.out.range 1 9 (by omega) (by omega) (by omega) (by omega)).mono ?_
  rintro e W2 ⟨n, rfl, n0, n1, Lq, -, -⟩
  have HL2 := Lib.hid Lq
  clear Lq HL1
  obtain ⟨m, rfl⟩ := Int.eq_ofNat_of_zero_le (show (0 : Int) ≤ n by omega)
  go_wp2_with fail
  refine (HL2.out.rightTouches (by omega) (HG.out.pool.le HLE1.out) (HG.out.names.le HLE1.out) (HG.out.utf.le HLE1.out) (HG.out.mlen.le HLE1.out) m (by omega)).mono ?_
  rintro e W3 ⟨v, ts, H2, rfl, le2, -, C3, hok, hlen⟩
  obtain ⟨A, cap, H3, rfl, hcap, le3, L3, R3, -⟩ := C3.1.frozen2
  have HT : Hid (Told H3 A r ts) := ⟨R3, fun t ht => (hok.inn t ht).le le3, (HRI.out.le le2).le le3, HSZ.out, HR0.out, hok.right, by omega⟩
  have HLE3 := Lib.hid (HLE1.out.trans (le2.trans le3))
  have HIN3 := Lib.hid L3.fin
  have HB3 := Lib.hid L3.bel
  have hln := HT.out.len
  clear C3 L3 R3 le2 le3 hok HL2 HRI HSZ HLE1
  have HU3 := Lib.hid (HG.out.utf.le HLE3.out)
  have HM3 := Lib.hid (HG.out.mlen.le HLE3.out)
  have HPE3 : Hid (∀ W, H3.In W → Calls Tryz.prog 15 #[] W fun e w' => e = .returned (.bool true) ∧ Below W.heap.size W w') := fun W hW => HPE.out W (hW.le HLE3.out)
  clear HPE HG HLE3
  have HNW := Lib.hid (new1 (w := W3) (.cells #[.slice r.ka r.kinds.length r.kc, .int .i64 r.most, .slice r.wa r.weaks.length r.wc, .slice r.sa r.surs.length r.sc] 44))
  have HRB := Lib.hid (heap_alloc_new W3 (.cells #[.slice r.ka r.kinds.length r.kc, .int .i64 r.most, .slice r.wa r.weaks.length r.wc, .slice r.sa r.surs.length r.sc] 44))
  go_upto_region 3 with (fail)
  generalize W3.alloc (.cells #[.slice r.ka r.kinds.length r.kc, .int .i64 r.most, .slice r.wa r.weaks.length r.wc, .slice r.sa r.surs.length r.sc] 44) = W4 at *
  have HIN4 := Lib.hid (HIN3.out.below HNW.out)
  have HB4 := Lib.hid (HB3.out.trans (HNW.out.mono HB3.out.size))
  generalize W3.heap.size = rb at *
  clear HNW HIN3 HB3
  have HP2 := Lib.hid (fun W hW => persons_told H3 HU3.out HM3.out A cap r ts HT.out W hW)
  have z0 := cell_h HRB.out 0 (v := .slice r.ka r.kinds.length r.kc) rfl
  have z1 := cell_h HRB.out 1 (v := .int .i64 r.most) rfl
  have z2 := cell_h HRB.out 2 (v := .slice r.wa r.weaks.length r.wc) rfl
  have z3 := cell_h HRB.out 3 (v := .slice r.sa r.surs.length r.sc) rfl
  go_wp2_with fail
  refine (HP2.out W4 HIN4.out).mono ?_
  rintro e W5 ⟨hb5, Ap, cp, ps, rr, rfl, hu1, hp1, hq1, hcp⟩
  have HRB5 : Hid (W5.heap[rb]? = some (.cells #[.slice r.ka r.kinds.length r.kc, .int .i64 r.most, .slice r.wa r.weaks.length r.wc, .slice r.sa r.surs.length r.sc] 44 (0, 0))) := (hb5.block rb (lt_of_heap HRB.out)).trans HRB.out
  have HB5 := Lib.hid (HB4.out.trans (hb5.mono HB4.out.size))
  have HU := Lib.hid hu1
  have HQ := Lib.hid hq1
  have HPA := Lib.hid hp1
  have hl35 : H3.Le (wholeH W5) := fun b o h => (HIN4.out.below hb5) b o h
  have HT5 := Lib.hid (HT.out.le hl35)
  have HU5 := Lib.hid (HU3.out.le hl35)
  have HM5 := Lib.hid (HM3.out.le hl35)
  have HPE5 : Hid (∀ W, (wholeH W5).In W → Calls Tryz.prog 15 #[] W fun e w' => e = .returned (.bool true) ∧ Below W.heap.size W w') := fun W hW => HPE3.out W (hW.le hl35)
  have HRB6 : Hid (wholeH W5 rb = some (.cells #[.slice r.ka r.kinds.length r.kc, .int .i64 r.most, .slice r.wa r.weaks.length r.wc, .slice r.sa r.surs.length r.sc] 44 (0, 0))) := HRB5.out
  have HIN5 : Hid ((wholeH W5).In W5) := wholeH_in W5
  have HRIS := Lib.hid HT.out.rising
  have hpn := pers_sz hq1 hln
  have HSUM := Lib.hid (pers_sum hu1 hq1)
  have HR9 := Lib.hid (tchs_right (HT.out.right.all (by omega))).2.1
  have HPIL := Lib.hid (fun p (hp : p ∈ ps) => pers_ids_len hq1 (fun t ht => by have := (HT.out.inn t ht).il; omega) hln hp)
  have hpl : ps.length ≤ 100 := by rw [hq1.len]; exact Nat.le_trans (rts_le _ _) hln
  clear hb5 hu1 hp1 hq1 hl35 z0 z1 z2 z3 HP2 HT HU3 HM3 HPE3 HIN4 HB4 HRB HRB5
  generalize hH5 : wholeH W5 = H5 at *
  clear hH5
  go_wp2_with fail
  go_loopw [8, 45] (fun v t wr => ∃ i : Nat, i ≤ ps.length ∧ t = .int .i64 i ∧ v = .int .i64 (((ps.take i).map fun p => p.nos.length).sum : Nat) ∧ Hid (Below W5.heap.size W5 wr)) (fun _ t _ => ps.length - (intOf t).toNat)
  case atStart => exact ⟨0, by omega, rfl, by simp, Below.refl _ _⟩
  case round =>
    obtain ⟨i, hi, rfl, rfl, hb⟩ := hrel
    have hin := HIN5.out.below hb.out
    by_cases hlt : i < ps.length
    · obtain ⟨b, off, hA, hbl, hc⟩ := HPA.out.1.at_ hin hlt (by omega)
      have c0 : wr.cell? ⟨b, off + i * 4, none⟩ = some (.int .i64 ps[i].key.kind) := hc 0 (by omega)
      have c1 : wr.cell? ⟨b, off + i * 4 + 1, none⟩ = some (.string ps[i].key.text) := hc 1 (by omega)
      have c2 : wr.cell? ⟨b, off + i * 4 + 2, none⟩ = some (.slice ps[i].na ps[i].nos.length ps[i].nc) := hc 2 (by omega)
      have c3 : wr.cell? ⟨b, off + i * 4 + 3, none⟩ = some (.slice ps[i].ia ps[i].ids.length ps[i].ic) := hc 3 (by omega)
      have hs1 : (((ps.take (i + 1)).map fun p => p.nos.length).sum : Nat) = ((ps.take i).map fun p => p.nos.length).sum + ps[i].nos.length := by
        rw [List.take_succ_eq_append_getElem hlt, List.map_append, List.sum_append]; simp
      have hs2 : ((ps.take (i + 1)).map fun p => p.nos.length).sum ≤ ts.length := by
        rw [← HSUM.out, List.map_take]
        exact sum_take _ _
      have HS1 := Lib.hid hs1
      rw [hs1] at hs2
      subst hA
      clear hs1 hc hbl hin
      generalize ps[i] = p at *
      generalize ((ps.take i).map fun p => p.nos.length).sum = sm at *
      have hn1 := new1 (w := wr) (.cells #[.int .i64 p.key.kind, .string p.key.text, .slice p.na p.nos.length p.nc, .slice p.ia p.ids.length p.ic] 64)
      have HB1 := Lib.hid (hb.out.trans (hn1.mono hb.out.size))
      have hwr : IntKind.i64.wrap ((sm : Int) + (p.nos.length : Int)) = (sm : Int) + (p.nos.length : Int) := IntWalk.i64_in _ (by omega)
      clear hn1 hb
      go_wp2_with fail
      go_roundw
      case rel => exact ⟨i + 1, by omega, by go_num, by rw [HS1.out]; go_num, HB1⟩
      case measure => simp [intOf]; omega
    · have hie : i = ps.length := by omega
      subst hie
      rw [List.take_length, HSUM.out]
      have HBA := Lib.hid hb.out
      clear hb hin
      go_wp2_with fail
      go_loopw [57] (fun t wr => ∃ i : Nat, i ≤ ts.length ∧ t = .int .i64 i ∧ Hid (Below W5.heap.size W5 wr)) (fun t _ => ts.length - (intOf t).toNat)
      case atStart => exact ⟨0, by omega, rfl, HBA⟩
      case round =>
        clear HBA
        obtain ⟨i, hi, rfl, hb⟩ := hrel
        have hin := HIN5.out.below hb.out
        by_cases hlt : i < ts.length
        · obtain ⟨b, off, hA, hbl, hc⟩ := HT5.out.row.at_ hin hlt (by omega)
          have d0 : wr.cell? ⟨b, off + i * 5, none⟩ = some (.int .i64 ts[i].no) := hc 0 (by omega)
          have d1 : wr.cell? ⟨b, off + i * 5 + 1, none⟩ = some (.int .i64 ts[i].at_) := hc 1 (by omega)
          have d2 : wr.cell? ⟨b, off + i * 5 + 2, none⟩ = some (.string ts[i].source) := hc 2 (by omega)
          have d3 : wr.cell? ⟨b, off + i * 5 + 3, none⟩ = some (.slice ts[i].ia ts[i].ids.length ts[i].ic) := hc 3 (by omega)
          have d4 : wr.cell? ⟨b, off + i * 5 + 4, none⟩ = some (.slice ts[i].fa ts[i].fields.length ts[i].fc) := hc 4 (by omega)
          have HTI := Lib.hid (HT5.out.inn _ (List.getElem_mem hlt))
          have HPT := Lib.hid (pers_of_touch HU.out HQ.out HRIS.out hlt)
          have HIT := Lib.hid (fun k (hk : k < ps.length) h x hx => ids_of_touch HQ.out HRIS.out hk hlt h (x := x) hx)
          subst hA
          clear hc hbl
          generalize ts[i] = u at *
          have z0 : (wr.alloc (.cells #[.int .i64 u.no, .int .i64 u.at_, .string u.source, .slice u.ia u.ids.length u.ic, .slice u.fa u.fields.length u.fc] 53)).cell? ⟨wr.heap.size, 0, none⟩ = some (.int .i64 u.no) := newc 0 rfl
          have z1 : (wr.alloc (.cells #[.int .i64 u.no, .int .i64 u.at_, .string u.source, .slice u.ia u.ids.length u.ic, .slice u.fa u.fields.length u.fc] 53)).cell? ⟨wr.heap.size, 1, none⟩ = some (.int .i64 u.at_) := newc 1 rfl
          have z2 : (wr.alloc (.cells #[.int .i64 u.no, .int .i64 u.at_, .string u.source, .slice u.ia u.ids.length u.ic, .slice u.fa u.fields.length u.fc] 53)).cell? ⟨wr.heap.size, 2, none⟩ = some (.string u.source) := newc 2 rfl
          have z3 : (wr.alloc (.cells #[.int .i64 u.no, .int .i64 u.at_, .string u.source, .slice u.ia u.ids.length u.ic, .slice u.fa u.fields.length u.fc] 53)).cell? ⟨wr.heap.size, 3, none⟩ = some (.slice u.ia u.ids.length u.ic) := newc 3 rfl
          have z4 : (wr.alloc (.cells #[.int .i64 u.no, .int .i64 u.at_, .string u.source, .slice u.ia u.ids.length u.ic, .slice u.fa u.fields.length u.fc] 53)).cell? ⟨wr.heap.size, 4, none⟩ = some (.slice u.fa u.fields.length u.fc) := newc 4 rfl
          have HBN := Lib.hid (new1 (w := wr) (.cells #[.int .i64 u.no, .int .i64 u.at_, .string u.source, .slice u.ia u.ids.length u.ic, .slice u.fa u.fields.length u.fc] 53))
          have HHC := heap_alloc_new wr (.cells #[.int .i64 u.no, .int .i64 u.at_, .string u.source, .slice u.ia u.ids.length u.ic, .slice u.fa u.fields.length u.fc] 53)
          go_upto_region 15 with (fail)
          clear d0 d1 d2 d3 d4
          generalize wr.alloc (.cells #[.int .i64 u.no, .int .i64 u.at_, .string u.source, .slice u.ia u.ids.length u.ic, .slice u.fa u.fields.length u.fc] 53) = W7 at *
          have HB7 := Lib.hid (hb.out.trans (HBN.out.mono hb.out.size))
          have hin7 := hin.below HBN.out
          have hle7 : H5.Le (wholeH W7) := fun b o h => hin7 b o h
          have hno := wholeH_cell (cell_h HHC 0 (v := .int .i64 u.no) rfl)
          have HIF := Lib.hid (indexFunc_Per (wholeH W7) fPer 29 [.pointer (some ⟨wr.heap.size, 0, none⟩)] (fun p => p.nos.contains u.no) ps (fun W d hd hW => part1_any (wholeH W7) d wr.heap.size u.no W hW ((HPA.out.2 d hd).1.le hle7) (hpn.2 d hd) hno) (fun _ _ => by kernel_rfl) Ap cp W7 (wholeH_in W7) (HPA.out.1.le hle7) (by omega))
          have HTB := Lib.hid HHC
          clear HHC hno hle7 hin7 hin hb z0 z1 z2 z3 z4 HBN
          generalize wr.heap.size = tb at *
          go_wp2_with fail
          refine HIF.out.mono ?_
          rintro e W8 ⟨rfl, hb8⟩
          have HTB8 := Lib.hid ((hb8.block tb (lt_of_heap HTB.out)).trans HTB.out)
          have HB8 := Lib.hid (HB7.out.trans (hb8.mono HB7.out.size))
          obtain ⟨k, hk, hke, hkc⟩ : ∃ (k : Nat) (hk : k < ps.length), idxF (fun p : PerD => p.nos.contains u.no) ps = k ∧ ps[k].nos.contains u.no = true := by
            rcases idxF_cases (fun p : PerD => p.nos.contains u.no) ps with ⟨-, h⟩ | ⟨k, hk, h1, h2⟩
            · obtain ⟨p, hp, h3⟩ := HPT.out
              have := h p hp
              rw [h3] at this
              cases this
            · exact ⟨k, hk, h1, h2⟩
          rw [hke]
          have HXI := Lib.hid (fun x hx => HIT.out k hk hkc x hx)
          clear hb8 HIF HTB HPT HIT hke hkc HB7
          have z3 := cell_h HTB8.out 3 (v := .slice u.ia u.ids.length u.ic) rfl
          go_wp2_with fail
          clear z3
          go_loopw [69] (fun t wr => ∃ j : Nat, j ≤ u.ids.length ∧ t = .int .i64 j ∧ Hid (Below W5.heap.size W5 wr)) (fun t _ => u.ids.length - (intOf t).toNat)
          case atStart => exact ⟨0, by omega, rfl, HB8⟩
          case round =>
            clear HB8
            obtain ⟨j, hj, rfl, hb⟩ := hrel
            have hin := HIN5.out.below hb.out
            by_cases hlt2 : j < u.ids.length
            · obtain ⟨b2, off2, hA2, hbl2, hc2⟩ := HTI.out.ids.at_ hin hlt2 (by omega)
              have c0 : wr.cell? ⟨b2, off2 + j * 2, none⟩ = some (.int .i64 u.ids[j].kind) := hc2 0 (by omega)
              have c1 : wr.cell? ⟨b2, off2 + j * 2 + 1, none⟩ = some (.string u.ids[j].text) := hc2 1 (by omega)
              have hmem := HXI.out _ (List.getElem_mem hlt2)
              obtain ⟨ia, hia⟩ : ∃ ia, u.ia = ia := ⟨_, rfl⟩
              rw [hia] at hA2 ⊢
              subst hA2
              clear hc2 hbl2
              generalize u.ids[j] = x at *
              have HXB := Lib.hid (heap_alloc_new wr (.cells #[.int .i64 x.kind, .string x.text] 55))
              have hn1 := new1 (w := wr) (.cells #[.int .i64 x.kind, .string x.text] 55)
              have HB1 := Lib.hid (hb.out.trans (hn1.mono hb.out.size))
              go_upto_region 21 with (fail)
              clear c0 c1 hia hn1 hb
              generalize wr.alloc (.cells #[.int .i64 x.kind, .string x.text] 55) = W9 at *
              generalize wr.heap.size = xb at *
              have HIN9 := Lib.hid (HIN5.out.below HB1.out)
              obtain ⟨b3, off3, hA3, hbl3, hc3⟩ := HPA.out.1.at_ HIN9.out hk (by omega)
              have K3 := lift_cell (show W9.cell? ⟨b3, off3 + k * 4 + 3, none⟩ = some (.slice ps[k].ia ps[k].ids.length ps[k].ic) from hc3 3 (by omega))
              have J0 := lift_cell (cell_h HXB.out 0 (v := .int .i64 x.kind) rfl)
              have J1 := lift_cell (cell_h HXB.out 1 (v := .string x.text) rfl)
              have hpid : ps[k].ids.length ≤ 1000000 := HPIL.out _ (List.getElem_mem hk)
              have HCN := Lib.hid (fun W (hW : Below W9.heap.size W9 W) => contains_Id H5 ps[k].ia ps[k].ic ps[k].ids x W (HIN9.out.below hW) (HPA.out.2 _ (List.getElem_mem hk)).2 hpid)
              have htrue : anyF (eqId x) ps[k].ids = true := hasId_iff.2 hmem
              rw [htrue] at HCN
              have hk2 : (k : Int) < ps.length := by omega
              subst hA3
              clear hc3 hbl3 htrue hmem hpid hin
              have hw9 : IntKind.i64.wrap ((j : Int) + 1) = (j : Int) + 1 := IntWalk.i64_in _ (by have := HTI.out.il; omega)
              (refine wp_region_det 7 150 (fun W => Below (W9).heap.size (W9) W) (by kernel_rfl) (by kernel_rfl) (by rfl) (Below.refl _ _).drew ?_; simp only [List.take_succ_cons, List.take_zero, List.drop_succ_cons, List.drop_zero])
              iterate 6 (refine detSeq_op rfl ?_ (fun W hW => ?_) ?_; rotate_left; (focus simp only [OpV]; go_simp; first | exact rfl | exact ⟨rfl, hW⟩))
              (refine detSeq_op rfl ?_ (fun W hW => ?_) ?_; rotate_left; focus (simp only [OpV]; go_simp; refine (HCN.out W hW).mono ?_; rintro e w' ⟨rfl, hb⟩; refine ⟨_, rfl, ?_, det_back hW hb⟩; exact rfl))
              refine detSeq_nil (fun W10 hW10 => ?_)
              have HB2 := Lib.hid (HB1.out.trans (hW10.mono HB1.out.size))
              clear hW10 K3 J0 J1 HCN HB1
              go_wp2_with fail
              go_roundw
              case rel => exact ⟨j + 1, by omega, by go_num, HB2⟩
              case measure => simp [intOf]; omega
            · have hje : j = u.ids.length := by omega
              subst hje
              have HB1 := Lib.hid hb.out
              clear hb hin
              go_wp2_with fail
              go_roundw
              case rel => exact ⟨i + 1, by omega, by go_num, HB1⟩
              case measure => simp [intOf]; omega
        · have hie : i = ts.length := by omega
          subst hie
          have HBA := Lib.hid hb.out
          clear hb hin
          go_wp2_with fail
          go_loopw [89] (fun t wr => ∃ i : Nat, i ≤ ps.length ∧ t = .int .i64 i ∧ Hid (Below W5.heap.size W5 wr)) (fun t _ => ps.length - (intOf t).toNat)
          case atStart => exact ⟨0, by omega, rfl, HBA⟩
          case round =>
            clear HBA
            obtain ⟨i, hi, rfl, hb⟩ := hrel
            have hin := HIN5.out.below hb.out
            by_cases hlt : i < ps.length
            · obtain ⟨b, off, hA, hbl, hc⟩ := HPA.out.1.at_ hin hlt (by omega)
              have c0 : wr.cell? ⟨b, off + i * 4, none⟩ = some (.int .i64 ps[i].key.kind) := hc 0 (by omega)
              have c1 : wr.cell? ⟨b, off + i * 4 + 1, none⟩ = some (.string ps[i].key.text) := hc 1 (by omega)
              have c2 : wr.cell? ⟨b, off + i * 4 + 2, none⟩ = some (.slice ps[i].na ps[i].nos.length ps[i].nc) := hc 2 (by omega)
              have c3 : wr.cell? ⟨b, off + i * 4 + 3, none⟩ = some (.slice ps[i].ia ps[i].ids.length ps[i].ic) := hc 3 (by omega)
              have HPI := Lib.hid (HPA.out.2 _ (List.getElem_mem hlt))
              have hpni := hpn.2 _ (List.getElem_mem hlt)
              have hpid : ps[i].ids.length ≤ 1000000 := HPIL.out _ (List.getElem_mem hlt)
              have HCS0 := Lib.hid (fun hf rr2 k2 ids2 cs hu2 hk2 h => cut_spec HU.out HQ.out hlt hf (rr2 := rr2) (k2 := k2) (ids2 := ids2) (cs := cs) hu2 hk2 h)
              have HKA := Lib.hid (fun hf => key_at HQ.out hlt hf)
              have hke : idErr ps[i].key.kind ps[i].key.text = 0 := by
                obtain ⟨t, htm, hx⟩ := key_mem HQ.out (fun t htm e => by have := (HR9.out t htm).len; rw [e] at this; simp at this) hlt
                exact (HR9.out t htm).idE _ hx
              have HYE : Hid (∀ y ∈ ps[i].ids, idErr y.kind y.text = 0) := fun y hy => by
                obtain ⟨t, htm, hx⟩ := ids_mem HQ.out hlt hy
                exact (HR9.out t htm).idE _ hx
              have HFST : Hid (anyF (fun y : PerD => eqId y.key ps[i].key) (ps.take i) = false → ∀ j (hj : j < ps.length), j < i → ps[j].key ≠ ps[i].key) := fun h j hj hji e => by
                have h1 := List.any_eq_false.1 h ps[j] (List.mem_take_iff_getElem.2 ⟨j, by omega, rfl⟩)
                exact h1 (eqId_iff.2 e)
              subst hA
              clear hc hbl
              have HKE := Lib.hid hke
              clear hke
              generalize ps[i] = x at *
              have z0 : (wr.alloc (.cells #[.int .i64 x.key.kind, .string x.key.text, .slice x.na x.nos.length x.nc, .slice x.ia x.ids.length x.ic] 64)).cell? ⟨wr.heap.size, 0, none⟩ = some (.int .i64 x.key.kind) := newc 0 rfl
              have z1 : (wr.alloc (.cells #[.int .i64 x.key.kind, .string x.key.text, .slice x.na x.nos.length x.nc, .slice x.ia x.ids.length x.ic] 64)).cell? ⟨wr.heap.size, 1, none⟩ = some (.string x.key.text) := newc 1 rfl
              have z2 : (wr.alloc (.cells #[.int .i64 x.key.kind, .string x.key.text, .slice x.na x.nos.length x.nc, .slice x.ia x.ids.length x.ic] 64)).cell? ⟨wr.heap.size, 2, none⟩ = some (.slice x.na x.nos.length x.nc) := newc 2 rfl
              have z3 : (wr.alloc (.cells #[.int .i64 x.key.kind, .string x.key.text, .slice x.na x.nos.length x.nc, .slice x.ia x.ids.length x.ic] 64)).cell? ⟨wr.heap.size, 3, none⟩ = some (.slice x.ia x.ids.length x.ic) := newc 3 rfl
              have HBN := Lib.hid (new1 (w := wr) (.cells #[.int .i64 x.key.kind, .string x.key.text, .slice x.na x.nos.length x.nc, .slice x.ia x.ids.length x.ic] 64))
              have HHC := heap_alloc_new wr (.cells #[.int .i64 x.key.kind, .string x.key.text, .slice x.na x.nos.length x.nc, .slice x.ia x.ids.length x.ic] 64)
              go_upto_region 30 with (fail)
              clear c0 c1 c2 c3
              generalize wr.alloc (.cells #[.int .i64 x.key.kind, .string x.key.text, .slice x.na x.nos.length x.nc, .slice x.ia x.ids.length x.ic] 64) = W7 at *
              have HB7 := Lib.hid (hb.out.trans (HBN.out.mono hb.out.size))
              have hin7 := hin.below HBN.out
              have hle7 : H5.Le (wholeH W7) := fun b o h => hin7 b o h
              have hti : (ps.take i).length = i := by rw [List.length_take]; omega
              have HCF := Lib.hid (containsFunc_Per (wholeH W7) fPer 32 [.pointer (some ⟨wr.heap.size, 0, none⟩)] (fun y => eqId y.key x.key) (ps.take i) (fun W d hd hW => part2_any (wholeH W7) d wr.heap.size x.key W hW (wholeH_cell (cell_h HHC 0 rfl)) (wholeH_cell (cell_h HHC 1 rfl))) (fun _ _ => by kernel_rfl) (some ⟨b, off, none⟩) cp W7 (wholeH_in W7) ((HPA.out.1.le hle7).take i) (by omega))
              rw [hti] at HCF
              have HXB := Lib.hid HHC
              clear HHC hle7 hin7 hin hb z0 z1 z2 z3 HBN hti
              generalize wr.heap.size = xb at *
              have a3 : (0 : Int) ≤ (i : Int) := by omega
              have a4 : (i : Int) ≤ cp := by omega
              go_wp2_with fail
              clear a3 a4
              refine HCF.out.mono ?_
              rintro e W8 ⟨rfl, hb8⟩
              have HB8 := Lib.hid (HB7.out.trans (hb8.mono HB7.out.size))
              have HXB8 : Hid (W8.heap[xb]? = some (.cells #[.int .i64 x.key.kind, .string x.key.text, .slice x.na x.nos.length x.nc, .slice x.ia x.ids.length x.ic] 64 (0, 0))) := (hb8.block xb (lt_of_heap HXB.out)).trans HXB.out
              clear hb8 HCF HXB HB7
              generalize anyF (fun y : PerD => eqId y.key x.key) (ps.take i) = fb at *
              cases fb with
              | true =>
                clear HCS0 HKA HFST HYE HPI
                go_wp2_with fail
                go_roundw
                case rel => exact ⟨i + 1, by omega, by go_num, HB8⟩
                case measure => simp [intOf]; omega
              | false =>
                have hf := HFST.out rfl
                have HKI : Hid (KeyIn (JD r ts) ts x.key) := ⟨rr, i, HU.out, HKA.out hf⟩
                have HCU := Lib.hid (cuts_any H5 HU5.out HM5.out r A cap ts HT5.out x.key HKI.out HKE.out W8 (HIN5.out.below HB8.out))
                have HF0 := Lib.hid hf
                have hrb8 := (HIN5.out.below HB8.out) rb _ HRB6.out
                have q0 := cell_h hrb8 0 (v := .slice r.ka r.kinds.length r.kc) rfl
                have q1 := cell_h hrb8 1 (v := .int .i64 r.most) rfl
                have q2 := cell_h hrb8 2 (v := .slice r.wa r.weaks.length r.wc) rfl
                have q3 := cell_h hrb8 3 (v := .slice r.sa r.surs.length r.sc) rfl
                have y0 := cell_h HXB8.out 0 (v := .int .i64 x.key.kind) rfl
                have y1 := cell_h HXB8.out 1 (v := .string x.key.text) rfl
                clear hf hrb8 HKA HFST
                go_wp2_with fail
                refine HCU.out.mono ?_
                rintro e W9 ⟨hb9, rr2, k2, vcut, ids2, cs, rfl, hu2, hk2, oC, hcl, hsp⟩
                obtain ⟨ρ, hρ1, hρ2, hnos, hcut⟩ := HCS0.out HF0.out _ _ _ _ hu2 hk2 hsp
                obtain ⟨vA, vc, rfl, -, hrC⟩ := oC.memR
                have HRC : Hid (Rw (wholeH W9) vA 2 fId cs) := hrC
                have HB9 := Lib.hid (HB8.out.trans (hb9.mono HB8.out.size))
                have HXB9 : Hid (W9.heap[xb]? = some (.cells #[.int .i64 x.key.kind, .string x.key.text, .slice x.na x.nos.length x.nc, .slice x.ia x.ids.length x.ic] 64 (0, 0))) := (hb9.block xb (lt_of_heap HXB8.out)).trans HXB8.out
                have HRHO : Hid (ρ < ts.length ∧ repN rr ρ = ρ ∧ x.nos = ((cls (repN rr) ts.length ρ).map fun q => (tAt ts q).no)) := ⟨hρ1, hρ2, hnos⟩
                have HCUT := Lib.hid hcut
                clear hb9 hu2 hk2 oC hsp hρ1 hρ2 hnos hcut hrC HCU HCS0 HF0 q0 q1 q2 q3 y0 y1 HB8 HXB8 HKI
                have y3 := cell_h HXB9.out 3 (v := .slice x.ia x.ids.length x.ic) rfl
                go_wp2_with fail
                clear y3
                go_loopw [112] (fun t wr => ∃ j : Nat, j ≤ x.ids.length ∧ t = .int .i64 j ∧ Hid (Below W9.heap.size W9 wr)) (fun t _ => x.ids.length - (intOf t).toNat)
                case atStart => exact ⟨0, by omega, rfl, Below.refl _ _⟩
                case round =>
                  obtain ⟨j, hj, rfl, hb⟩ := hrel
                  have HIN9 := Lib.hid ((wholeH_in W9).below hb.out)
                  have h59 : H5.Le (wholeH W9) := fun b o h => (HIN5.out.below HB9.out) b o h
                  have HH59 := Lib.hid h59
                  by_cases hlt2 : j < x.ids.length
                  · obtain ⟨b2, off2, hA2, hbl2, hc2⟩ := HPI.out.2.at_ (HIN9.out.le h59) hlt2 (by omega)
                    have c0 : wr.cell? ⟨b2, off2 + j * 2, none⟩ = some (.int .i64 x.ids[j].kind) := hc2 0 (by omega)
                    have c1 : wr.cell? ⟨b2, off2 + j * 2 + 1, none⟩ = some (.string x.ids[j].text) := hc2 1 (by omega)
                    have HCY := Lib.hid (HCUT.out _ (List.getElem_mem hlt2))
                    have HEY := Lib.hid (HYE.out _ (List.getElem_mem hlt2))
                    obtain ⟨ia, hia⟩ : ∃ ia, x.ia = ia := ⟨_, rfl⟩
                    rw [hia] at hA2 ⊢
                    subst hA2
                    clear hc2 hbl2 h59
                    generalize x.ids[j] = y at *
                    have hrbw := (HIN9.out.le HH59.out) rb _ HRB6.out
                    have q0 := lift_cell (cell_h hrbw 0 (v := .slice r.ka r.kinds.length r.kc) rfl) _ (new1 (.cells #[.int .i64 y.kind, .string y.text] 55))
                    have q1 := lift_cell (cell_h hrbw 1 (v := .int .i64 r.most) rfl) _ (new1 (.cells #[.int .i64 y.kind, .string y.text] 55))
                    have q2 := lift_cell (cell_h hrbw 2 (v := .slice r.wa r.weaks.length r.wc) rfl) _ (new1 (.cells #[.int .i64 y.kind, .string y.text] 55))
                    have q3 := lift_cell (cell_h hrbw 3 (v := .slice r.sa r.surs.length r.sc) rfl) _ (new1 (.cells #[.int .i64 y.kind, .string y.text] 55))
                    have HY1 := heap_alloc_new wr (.cells #[.int .i64 y.kind, .string y.text] 55)
                    have HB1 := Lib.hid (hb.out.trans ((new1 (w := wr) (.cells #[.int .i64 y.kind, .string y.text] 55)).mono hb.out.size))
                    clear hb hrbw
                    go_upto_region 37 with (fail)
                    clear c0 c1 hia
                    generalize wr.alloc (.cells #[.int .i64 y.kind, .string y.text] 55) = Wy at *
                    generalize wr.heap.size = yb at *
                    have HK1 := Lib.hid (heap_alloc_new Wy (.cells #[.slice r.ka r.kinds.length r.kc, .int .i64 r.most, .slice r.wa r.weaks.length r.wc, .slice r.sa r.surs.length r.sc] 44))
                    have HKG0 := Lib.hid HB1.out.size
                    have HBY := Lib.hid HB1.out
                    have HINY : Hid (H5.In Wy) := ((wholeH_in W9).below HB1.out).le HH59.out
                    have hny := new1 (w := Wy) (.cells #[.slice r.ka r.kinds.length r.kc, .int .i64 r.most, .slice r.wa r.weaks.length r.wc, .slice r.sa r.surs.length r.sc] 44)
                    have HYB := Lib.hid ((hny.block yb (lt_of_heap HY1)).trans HY1)
                    have HYW := Lib.hid HY1
                    have HNY := Lib.hid hny
                    have HB2 := Lib.hid (HB1.out.trans (hny.mono HB1.out.size))
                    clear hny HY1 HB1
                    go_upto_region 38 with (fail)
                    clear q0 q1 q2 q3
                    generalize Wy.alloc (.cells #[.slice r.ka r.kinds.length r.kc, .int .i64 r.most, .slice r.wa r.weaks.length r.wc, .slice r.sa r.surs.length r.sc] 44) = Wk at *
                    generalize hkb : Wy.heap.size = kb at *
                    have HKBE := Lib.hid hkb
                    clear hkb
                    have HINK : Hid (H5.In Wk) := ((wholeH_in W9).below HB2.out).le HH59.out
                    have HCL := Lib.hid (fun W (hW : H5.In W) => clone_Id H5 fId r.weaks (fun d _ m => by match m with | 0 => rfl | _ + 1 => rfl) r.wa r.wc W hW HT5.out.rul.w (by have := HWK.out; omega))
                    have hwk := HWK.out
                    refine wp_region_conc 5 150 (φPw rb Wk.heap.size r y) (fun n W' => Below Wk.heap.size Wk W') (fun a b => Below a.heap.size a b) (by kernel_rfl) (by kernel_rfl) (by rfl) ((Below.refl _ _).drew) φPw_mono ?_ ?_
                    · intro n o hn ho a W2 kk hkk hJ hkn
                      have hcs : n = 0 ∨ n = 1 ∨ n = 2 ∨ n = 3 ∨ n = 4 := by omega
                      rcases hcs with rfl | rfl | rfl | rfl | rfl
                      · obtain rfl := Option.some.inj ho
                        have h1 := slotA_of (hkn 4 (by decide) : a.tmps.getD 4 undef = .pointer (some ⟨rb, 0, none⟩))
                        clear hkn ho
                        simp only [OpV, execOp]
                        simp [go_sem, h1]
                        exact ⟨rfl, hJ, Below.refl _ _⟩
                      · obtain rfl := Option.some.inj ho
                        have h1 := slotA_of (hkn 117 (by decide) : a.tmps.getD 117 undef = .pointer (some ⟨rb, 2, none⟩))
                        have c3 := cell_h ((HINK.out.below hJ) rb _ HRB6.out) 2 (v := .slice r.wa r.weaks.length r.wc) rfl
                        clear hkn ho
                        simp only [OpV, execOp]
                        simp [go_sem, h1, c3]
                        exact ⟨rfl, hJ, Below.refl _ _⟩
                      · obtain rfl := Option.some.inj ho
                        have h1 := slotA_of (hkn 118 (by decide) : a.tmps.getD 118 undef = .slice r.wa r.weaks.length r.wc)
                        clear hkn ho
                        simp only [OpV, execOp]
                        simp [go_sem, h1]
                        exact (HCL.out W2 (HINK.out.below hJ)).mono fun e w'' ⟨⟨v, he, ho⟩, hb⟩ => ⟨v, he, Orow.mono ho hJ.size, hJ.trans (hb.mono hJ.size), hb⟩
                      · obtain rfl := Option.some.inj ho
                        have h1 := slotA_of (hkn 21 (by decide) : a.tmps.getD 21 undef = .pointer (some ⟨yb, 0, none⟩))
                        have hy := (hJ.block yb (lt_of_heap HYB.out)).trans HYB.out
                        have c0 := cell_h hy 0 (v := .int .i64 y.kind) rfl
                        have c1 := cell_h hy 1 (v := .string y.text) rfl
                        clear hkn ho hy
                        simp only [OpV, execOp]
                        simp [go_sem, h1, c0, c1]
                        exact ⟨rfl, hJ, Below.refl _ _⟩
                      · obtain rfl := Option.some.inj ho
                        have h1 := slotA_of (hkn 120 (by decide) : a.tmps.getD 120 undef = .agg #[.int .i64 y.kind, .string y.text])
                        clear hkn ho
                        simp only [OpV, execOp]
                        simp [go_sem, h1]
                        exact ⟨⟨W2.heap.size, rfl, heap_alloc_new _ _⟩, hJ.alloc hJ.size _, new1 _⟩
                    · intro xv Wv hJv hφ
                      have oW : Orow Wv Wk.heap.size 55 2 fId (xv 2) r.weaks := hφ 2 (by omega)
                      obtain ⟨q, e4, hq⟩ : ∃ q, xv 4 = .slice (some ⟨q, 0, none⟩) 1 1 ∧ Wv.heap[q]? = some (.cells #[.int .i64 y.kind, .string y.text] 55 (0, 0)) := hφ 4 (by omega)
                      obtain ⟨vA2, vc2, e2, -⟩ := oW.slice
                      rw [e2] at oW
                      have HOW := Lib.hid oW
                      have HQQ := Lib.hid hq
                      have HKG : Hid (Wy.heap.size ≤ kb ∧ kb < Wk.heap.size) := ⟨by have := HKBE.out; omega, lt_of_heap HK1.out⟩
                      have hBk : Wk.heap.size ≤ Wv.heap.size := hJv.size
                      have HST : Hid (∀ v' W', Orow W' Wk.heap.size 55 2 fId v' (r.weaks ++ [y]) → Below Wk.heap.size Wv W' → W'.cell? ⟨kb, 2, none⟩ = some (.slice r.wa r.weaks.length r.wc) ∧ W'.frozen? ⟨kb, 2, none⟩ = false ∧ ∃ A' c', v' = .slice A' (r.weaks ++ [y]).length c' ∧ WeakS Wy kb r Wk.heap.size A' c' (r.weaks ++ [y]) (W'.setCell ⟨kb, 2, none⟩ v')) := fun v' W' o b1 =>
                        weak_put o (((hJv.trans b1).block kb HKG.out.2).trans HK1.out) (by rw [HKBE.out]; exact HNY.out.trans ((hJv.trans b1).mono (by have := HKG.out.2; omega))) HKG.out.2 HKG.out.1
                      simp only [List.drop_succ_cons, List.drop_zero, List.take_succ_cons, List.take_zero, putAll, Nat.reduceAdd, e2, e4]
                      clear e2 e4 hφ oW hq
                      generalize xv 0 = y09
                      generalize xv 1 = y19
                      generalize xv 3 = y39
                      go_upto_region 39 with (at_builtin; refine wpList_app_any rfl _ _ 41 rfl Wk.heap.size 55 j0 (.agg #[.int .i64 0, .string ⟨#[]⟩]) 2 24 Tryz.underlying41 HJ0.out hj0 hj1 hj2 rfl (by decide) fId (.slice vA2 r.weaks.length vc2) r.weaks (by go_simp) HOW.out y q #[.int .i64 y.kind, .string y.text] 55 (by go_simp) HQQ.out rfl (by simp [Value.oneCell']) (by omega) (by omega) hBk ?_; intro v1 w2 o1 g1 b1 at1; obtain ⟨q2, f2, A9, c9, rfl, hS⟩ := HST.out v1 w2 o1 b1; have S0 := Lib.hid hS; clear o1 g1 b1 at1 HST HOW hS)
                      clear q2 f2
                      have hl1 : (r.weaks ++ [y]).length = r.weaks.length + 1 := by simp
                      rw [hl1] at S0
                      clear hJv hBk HQQ HCL
                      generalize w2.setCell ⟨kb, 2, none⟩ (.slice A9 (r.weaks.length + 1) c9) = Ws at *
                      obtain ⟨ws0, hws0⟩ : ∃ ws0, ws0 = r.weaks ++ [y] := ⟨_, rfl⟩
                      rw [← hws0] at S0 hl1
                      have HWS0 := Lib.hid hws0
                      clear hws0
                      have hwl0 : ws0.length ≤ 11 := by omega
                      clear hl1
                      have q2 := cell_h S0.out.obj 2 (v := .slice A9 ws0.length c9) rfl
                      have HSF := Lib.hid (sortFunc_Id idCmp idCmp_ok 36 #[] (fun _ _ => by kernel_rfl) (fun W a b => compareIds_g a b W) Wk.heap.size (.slice A9 ws0.length c9) ws0 Ws S0.out.row (by omega))
                      go_wp2_with fail
                      clear q2
                      refine HSF.out.mono ?_
                      rintro e Wt ⟨rfl, ws1, hperm, hsrt, o1, g1⟩
                      have S1 := Lib.hid (S0.out.sorted hperm.length_eq o1 g1)
                      have HPM := Lib.hid (idsOk hperm hsrt)
                      have hwl1 : ws1.length ≤ 11 := by rw [hperm.length_eq]; exact hwl0
                      clear HSF hperm hsrt o1 g1 S0 hwl0
                      have q2 := cell_h S1.out.obj 2 (v := .slice A9 ws1.length c9) rfl
                      have HCP := Lib.hid (compact_Id ws1 Wk.heap.size (.slice A9 ws1.length c9) Wt S1.out.row (by omega))
                      go_wp2_with fail
                      clear q2
                      refine HCP.out.mono ?_
                      rintro e Wu ⟨⟨v2, rfl, o2, hown⟩, g2⟩
                      obtain ⟨k1, k2'⟩ := S1.out.kept g2
                      obtain ⟨q2, f2, A10, c10, rfl, hS2⟩ := weak_put o2 k1 k2' S1.out.kl S1.out.kg
                      have S2 := Lib.hid hS2
                      clear HCP o2 hown g2 k1 k2' hS2 S1
                      have HWIN : Hid (RisingI (compF eqId ws1) ∧ ∀ z, z ∈ compF eqId ws1 ↔ z ∈ r.weaks ∨ z = y) := by
                        refine ⟨HPM.out.1, fun z => ?_⟩
                        rw [HPM.out.2 z, HWS0.out, List.mem_append, List.mem_singleton]
                      have hwl2 : (compF eqId ws1).length ≤ 11 := Nat.le_trans (compF_sub eqId ws1).length_le hwl1
                      clear HPM HWS0 hwl1
                      generalize compF eqId ws1 = ws2 at *
                      go_upto_region 41 with (fail)
                      clear q2 f2
                      generalize Wu.setCell ⟨kb, 2, none⟩ (.slice A10 ws2.length c10) = Wx at *
                      have hinx : H5.In Wx := HINY.out.below S2.out.bel
                      have HTW := Lib.hid (S2.out.told HT5.out hinx HWIN.out.1 (fun z hz => by
                        rcases (HWIN.out.2 z).1 hz with h | h
                        · exact weak_ids HT5.out.rz z h
                        · rw [h]; exact HEY.out) (by omega))
                      have h5x : H5.Le (wholeH Wx) := fun b o h => hinx b o h
                      have HPW := Lib.hid (persons_told (wholeH Wx) (HU5.out.le h5x) (HM5.out.le h5x) A cap (weakR r A10 c10 ws2) ts HTW.out Wx (wholeH_in Wx))
                      have p0 := cell_h S2.out.obj 0 (v := .slice r.ka r.kinds.length r.kc) rfl
                      have p1 := cell_h S2.out.obj 1 (v := .int .i64 r.most) rfl
                      have p2 := cell_h S2.out.obj 2 (v := .slice A10 ws2.length c10) rfl
                      have p3 := cell_h S2.out.obj 3 (v := .slice r.sa r.surs.length r.sc) rfl
                      have hJW := weak_J (r := r) (ts := ts) (wa := A10) (wc := c10) (ws := ws2) (x := y) HWIN.out.2
                      have HJW := Lib.hid hJW
                      clear hinx h5x hJW
                      go_wp2_with fail
                      refine HPW.out.mono ?_
                      rintro e Wv2 ⟨hbv, Aq, cq, qs, rq, rfl, huq, hpq, hqq, -⟩
                      rw [HJW.out] at huq hqq
                      have hwi := whole_iff HU.out HRHO.out.1 HRHO.out.2.1 huq hqq HRIS.out
                      rw [← HRHO.out.2.2] at hwi
                      have hqsz := pers_sz hqq hln
                      have HBV := Lib.hid (S2.out.bel.trans (hbv.mono S2.out.bel.size))
                      have hb9v : Below W9.heap.size W9 Wv2 := HBY.out.trans (HBV.out.mono HBY.out.size)
                      have hxv := (hb9v.block xb (lt_of_heap HXB9.out)).trans HXB9.out
                      have h5v : H5.Le (wholeH Wv2) := fun b o h => (HINY.out.below HBV.out) b o h
                      have HC3 := Lib.hid (containsFunc_Per (wholeH Wv2) fPer 38 [.pointer (some ⟨xb, 0, none⟩)] (fun p => decide (p.nos = x.nos)) qs (fun W d hd hW => part3_any (wholeH Wv2) d xb x.na x.nc x.nos W hW (hpq.2 d hd).1 (hqsz.2 d hd) (wholeH_cell (cell_h hxv 2 rfl)) (HPI.out.1.le h5v) hpni) (fun _ _ => by kernel_rfl) Aq cq Wv2 (wholeH_in Wv2) hpq.1 hqsz.1)
                      have HWI : Hid (anyF (fun p : PerD => decide (p.nos = x.nos)) qs = true ↔ WholeD (JD r ts) ts (cls (repN rr) ts.length ρ) y) := by
                        show _ ↔ _
                        rw [← hwi]
                        unfold anyF
                        rw [List.any_eq_true]
                        exact ⟨fun ⟨p, hp, h⟩ => ⟨p, hp, by simpa using h⟩, fun ⟨p, hp, h⟩ => ⟨p, hp, by simpa using h⟩⟩
                      clear p0 p1 p2 p3 HPW huq hqq hpq hwi hqsz hb9v hxv h5v hbv S2 HTW HJW HWIN
                      go_wp2_with fail
                      refine HC3.out.mono ?_
                      rintro e Wy2 ⟨rfl, hb2⟩
                      have HBV2 := Lib.hid (HBV.out.trans (hb2.mono HBV.out.size))
                      clear hb2 HC3 HBV
                      generalize anyF (fun p : PerD => decide (p.nos = x.nos)) qs = wh at *
                      have hb9z : Below W9.heap.size W9 Wy2 := HBY.out.trans (HBV2.out.mono HBY.out.size)
                      have HCN := Lib.hid (contains_Id (wholeH W9) vA vc cs y Wy2 ((wholeH_in W9).below hb9z) HRC.out (by omega))
                      have hyz := (HBV2.out.block yb (lt_of_heap HYW.out)).trans HYW.out
                      have y0 := cell_h hyz 0 (v := .int .i64 y.kind) rfl
                      have y1 := cell_h hyz 1 (v := .string y.text) rfl
                      have hcs9 : anyF (eqId y) cs = !wh := by
                        have h1 : anyF (eqId y) cs = true ↔ ¬ wh = true := by
                          rw [show anyF (eqId y) cs = hasId cs y from rfl, hasId_iff, HCY.out, HWI.out]
                        cases wh with
                        | true =>
                          cases e : anyF (eqId y) cs with
                          | true => exact absurd rfl (h1.1 e)
                          | false => rfl
                        | false => exact h1.2 (by simp)
                      rw [hcs9] at HCN
                      clear hcs9 hyz hb9z
                      go_wp2_with fail
                      clear y0 y1
                      refine HCN.out.mono ?_
                      rintro e Wz ⟨rfl, hbz⟩
                      have HBZ := Lib.hid (HBY.out.trans ((HBV2.out.trans (hbz.mono HBV2.out.size)).mono HBY.out.size))
                      clear hbz HCN HBV2
                      have kk : (wh == !wh) = false := by cases wh <;> rfl
                      go_wp2_with fail
                      go_roundw
                      case rel => exact ⟨j + 1, by omega, by go_num, HBZ⟩
                      case measure => simp [intOf]; omega
                  · have hje : j = x.ids.length := by omega
                    subst hje
                    have HBZ := Lib.hid (HB9.out.trans (hb.out.mono HB9.out.size))
                    clear hb HIN9 h59 HH59
                    go_wp2_with fail
                    go_roundw
                    case rel => exact ⟨i + 1, by omega, by go_num, HBZ⟩
                    case measure => simp [intOf]; omega
            · have hie : i = ps.length := by omega
              subst hie
              have HBZ := Lib.hid (HB5.out.trans (hb.out.mono HB5.out.size))
              clear hb
              have HINZ := Lib.hid hin
              clear hin
              go_wp2_with fail
              refine (HPE5.out _ HINZ.out).mono ?_
              rintro e W7 ⟨rfl, hb7⟩
              have HF := Lib.hid (HBZ.out.trans (hb7.mono HBZ.out.size))
              clear hb7
              go_wp2_with fail
              exact bodyPost_ret (by kernel_rfl) rfl ⟨rfl, HF.out⟩
end Go.Proofs.YtbidhpgjmcedaaaGreatDoor
