/- Texts of this claim, put together: Cuts. -/
import Derived.Test.YtbidhpgjmcedaaaGreatDoorGBN
import Derived.Deep.MidRow
/- Cuts: the ids without which a person would be several. -/
namespace Go.Proofs.YtbidhpgjmcedaaaGreatDoor
set_option linter.unusedVariables false
open Go.RowKit
theorem infoTchC : (Tryz.prog.info? 53).map (fun i => (i.zero, i.size, i.bytes)) = some (some (.agg #[.int .i64 0, .int .i64 0, .string ⟨#[]⟩, .slice none 0 0, .slice none 0 0]), 5, 80) := by kernel_rfl
def CutsPost (r : RulD) (ts : List TchD) (key : IdD) (w : World) (e : Ending) (w' : World) : Prop :=
  Below w.heap.size w w' ∧ ∃ (rr : List Nat) (k : Nat) (v : Value) (ids cs : List IdD), e = .returned (.tuple #[v, .int .i64 0]) ∧ Uf (Share (JD r ts) ts) rr ∧ KeyAt (JD r ts) ts (repN rr) key k ∧ Orow w' w.heap.size 55 2 fId v cs ∧ cs.length ≤ 2000 ∧
    ∀ (h : k < (rts (repN rr) ts.length).length), IdsOk ((cls (repN rr) ts.length (rts (repN rr) ts.length)[k]).flatMap fun q => (tAt ts q).ids) ids ∧ ∀ x, x ∈ cs ↔ x ∈ ids ∧ ¬ WholeD (JD r ts) ts (cls (repN rr) ts.length (rts (repN rr) ts.length)[k]) x
set_option maxHeartbeats 4000000 in
set_option maxRecDepth 100000 in
theorem cuts_any (H : Frz) (hU : UtfIn H) (hM : MLen H) (r : RulD) (A : Option Addr) (cap : Nat) (ts : List TchD) (ht : Told H A r ts) (key : IdD) (hk : KeyIn (JD r ts) ts key) (hz : idErr key.kind key.text = 0) (w : World) (hH : H.In w) :
    Calls Tryz.prog 33 #[.agg #[.slice r.ka r.kinds.length r.kc, .int .i64 r.most, .slice r.wa r.weaks.length r.wc, .slice r.sa r.surs.length r.sc], .slice A ts.length cap, .agg #[.int .i64 key.kind, .string key.text]] w (CutsPost r ts key w) := by
  obtain ⟨i0, hi9, hi0, hi1, hi2⟩ := info_parts infoTchC
  have HI0 := Lib.hid hi9
  clear hi9
  obtain ⟨j0, hj9, hj0, hj1, hj2⟩ := info_parts (show (Tryz.prog.info? 55).map (fun i => (i.zero, i.size, i.bytes)) = some (some (.agg #[.int .i64 0, .string ⟨#[]⟩]), 2, 24) by kernel_rfl)
  have HJ0 := Lib.hid hj9
  clear hj9
  have hr9 := tchs_right (ht.right.all (by have := ht.len; omega))
  have hlen : ts.length ≤ 100 := ht.len
  have hrul := (rul_right ht.rz).1
  have z0 : (w.alloc (.cells #[.slice r.ka r.kinds.length r.kc, .int .i64 r.most, .slice r.wa r.weaks.length r.wc, .slice r.sa r.surs.length r.sc] 44)).cell? ⟨w.heap.size, 0, none⟩ = some (.slice r.ka r.kinds.length r.kc) := newc 0 rfl
  have z1 : (w.alloc (.cells #[.slice r.ka r.kinds.length r.kc, .int .i64 r.most, .slice r.wa r.weaks.length r.wc, .slice r.sa r.surs.length r.sc] 44)).cell? ⟨w.heap.size, 1, none⟩ = some (.int .i64 r.most) := newc 1 rfl
  have z2 : (w.alloc (.cells #[.slice r.ka r.kinds.length r.kc, .int .i64 r.most, .slice r.wa r.weaks.length r.wc, .slice r.sa r.surs.length r.sc] 44)).cell? ⟨w.heap.size, 2, none⟩ = some (.slice r.wa r.weaks.length r.wc) := newc 2 rfl
  have z3 : (w.alloc (.cells #[.slice r.ka r.kinds.length r.kc, .int .i64 r.most, .slice r.wa r.weaks.length r.wc, .slice r.sa r.surs.length r.sc] 44)).cell? ⟨w.heap.size, 3, none⟩ = some (.slice r.sa r.surs.length r.sc) := newc 3 rfl
  have HBN := Lib.hid (new1 (w := w) (.cells #[.slice r.ka r.kinds.length r.kc, .int .i64 r.most, .slice r.wa r.weaks.length r.wc, .slice r.sa r.surs.length r.sc] 44))
  have hb1 : Below (w.alloc (.cells #[.slice r.ka r.kinds.length r.kc, .int .i64 r.most, .slice r.wa r.weaks.length r.wc, .slice r.sa r.surs.length r.sc] 44)).heap.size (w.alloc (.cells #[.slice r.ka r.kinds.length r.kc, .int .i64 r.most, .slice r.wa r.weaks.length r.wc, .slice r.sa r.surs.length r.sc] 44)) ((w.alloc (.cells #[.slice r.ka r.kinds.length r.kc, .int .i64 r.most, .slice r.wa r.weaks.length r.wc, .slice r.sa r.surs.length r.sc] 44)).alloc (.cells #[.int .i64 key.kind, .string key.text] 55)) := new1 _
  have e1 : (w.alloc (.cells #[.slice r.ka r.kinds.length r.kc, .int .i64 r.most, .slice r.wa r.weaks.length r.wc, .slice r.sa r.surs.length r.sc] 44)).heap.size = w.heap.size + 1 := by simp
  have x0 : ((w.alloc (.cells #[.slice r.ka r.kinds.length r.kc, .int .i64 r.most, .slice r.wa r.weaks.length r.wc, .slice r.sa r.surs.length r.sc] 44)).alloc (.cells #[.int .i64 key.kind, .string key.text] 55)).cell? ⟨(w.alloc (.cells #[.slice r.ka r.kinds.length r.kc, .int .i64 r.most, .slice r.wa r.weaks.length r.wc, .slice r.sa r.surs.length r.sc] 44)).heap.size, 0, none⟩ = some (.int .i64 key.kind) := newc 0 rfl
  have x1 : ((w.alloc (.cells #[.slice r.ka r.kinds.length r.kc, .int .i64 r.most, .slice r.wa r.weaks.length r.wc, .slice r.sa r.surs.length r.sc] 44)).alloc (.cells #[.int .i64 key.kind, .string key.text] 55)).cell? ⟨(w.alloc (.cells #[.slice r.ka r.kinds.length r.kc, .int .i64 r.most, .slice r.wa r.weaks.length r.wc, .slice r.sa r.surs.length r.sc] 44)).heap.size, 1, none⟩ = some (.string key.text) := newc 1 rfl
  replace z0 := lift_cell z0 _ hb1
  replace z1 := lift_cell z1 _ hb1
  replace z2 := lift_cell z2 _ hb1
  replace z3 := lift_cell z3 _ hb1
  rw [e1] at x0 x1
  have HBN := Lib.hid (HBN.out.trans (hb1.mono HBN.out.size))
  have HIN := Lib.hid (hH.below HBN.out)
  have HKD := Lib.hid (fun W (hW : H.In W) => keyed_any H hU hM r A cap ts ht key hk hz W hW)
  have HTO := Lib.hid ht
  have HRU := Lib.hid hrul
  have HR9 := Lib.hid hr9.2.1
  have HH := Lib.hid hH
  clear hb1 e1 hU hM ht hk hz hrul hr9 hH
  go_enter Tryz.func33, Tryz.ntmps33
  go_upto_region 1 with (fail)
  generalize (w.alloc (.cells #[.slice r.ka r.kinds.length r.kc, .int .i64 r.most, .slice r.wa r.weaks.length r.wc, .slice r.sa r.surs.length r.sc] 44)).alloc (.cells #[.int .i64 key.kind, .string key.text] 55) = W1 at *
  go_wp2_with fail
  refine (HKD.out W1 HIN.out).mono ?_
  rintro e W3 ⟨hb3, gp, bm, nm, m, rr, k, vT, vI, vA, nos, ats, ids, rfl, hG, huf, hka, oT, oI, oA, hnos⟩
  have hkl := hka.lt
  obtain ⟨hno, hat, hids⟩ := hnos hkl
  obtain ⟨ρ, hρ⟩ : ∃ ρ, ρ = (rts (repN rr) ts.length)[k] := ⟨_, rfl⟩
  rw [← hρ] at hno hat hids
  obtain ⟨C, hC⟩ : ∃ C, C = cls (repN rr) ts.length ρ := ⟨_, rfl⟩
  rw [← hC] at hno hat hids
  have HPOST : Hid (∀ (W' : World) (v : Value) (cs : List IdD), Below w.heap.size w W' → Orow W' w.heap.size 55 2 fId v cs → cs.length ≤ 2000 → (∀ x, x ∈ cs ↔ x ∈ ids ∧ ¬ WholeD (JD r ts) ts C x) → CutsPost r ts key w (.returned (.tuple #[v, .int .i64 0])) W') := by
    intro W' v cs h1 h2 h3 h4
    refine ⟨h1, rr, k, v, ids, cs, rfl, huf, hka, h2, h3, fun h => ?_⟩
    rw [← hρ, ← hC]
    exact ⟨hids, h4⟩
  have hCl : C.length ≤ 100 := by rw [hC]; have := cls_le (repN rr) ts.length ρ; omega
  have hatl : ats.length = C.length := by rw [hat, List.length_map]
  have HAT := Lib.hid hat
  have HATL := Lib.hid hatl
  clear hatl
  have HIDS := Lib.hid hids
  have HCC := Lib.hid hC
  have HUF := Lib.hid huf
  have HCT : Hid (∀ q ∈ C, q < ts.length) := fun q hq => by rw [HCC.out] at hq; exact cls_lt hq
  have HG := Lib.hid hG
  obtain ⟨tA, tc, rfl, -⟩ := oT.slice
  obtain ⟨iA, ic, rfl, -⟩ := oI.slice
  obtain ⟨aA, ac, rfl, -⟩ := oA.slice
  obtain ⟨iA', ic', eI, -, hrI⟩ := oI.memR
  injection eI with eI _ eI2
  subst eI
  obtain ⟨aA', ac', eA, -, hrA⟩ := oA.memR
  injection eA with eA _ eA2
  subst eA
  have HRI := Lib.hid hrI
  have HRA := Lib.hid hrA
  have hb03 := HBN.out.trans (hb3.mono HBN.out.size)
  have HB3 := Lib.hid hb03
  have HLE3 : Hid (H.Le (wholeH W3)) := fun b o h => (HH.out.below hb03) b o h
  have y0 := lift_cell z0 _ hb3
  have y1 := lift_cell z1 _ hb3
  have y2 := lift_cell z2 _ hb3
  have y3 := lift_cell z3 _ hb3
  clear hb3 hG huf hka oT oI oA hnos hkl hno hat hids hρ hC hrI hrA eI2 eA2 hb03 z0 z1 z2 z3 x0 x1
  rw [HATL.out]
  have HM3 := Lib.hid (heap_alloc_new W3 (.cells #[.int .i64 key.kind, .string key.text, .slice tA nos.length tc, .slice iA ids.length ic, .slice aA C.length ac] 147))
  have HN3 := Lib.hid (new1 (w := W3) (.cells #[.int .i64 key.kind, .string key.text, .slice tA nos.length tc, .slice iA ids.length ic, .slice aA C.length ac] 147))
  go_upto_region 2 with (fail)
  generalize W3.alloc (.cells #[.int .i64 key.kind, .string key.text, .slice tA nos.length tc, .slice iA ids.length ic, .slice aA C.length ac] 147) = W4 at *
  generalize hmb : W3.heap.size = mb at *
  have HMB := Lib.hid hmb
  clear hmb
  have k3 := cell_h HM3.out 3 (v := .slice iA ids.length ic) rfl
  have k4 := cell_h HM3.out 4 (v := .slice aA C.length ac) rfl
  have HBA := Lib.hid (HN3.out)
  have HIN3 : Hid ((wholeH W3).In W4) := fun b o h => (HN3.out.block b (by rw [← HMB.out]; exact lt_of_heap h)).trans h
  have hzt : (Value.agg #[.int .i64 0, .int .i64 0, .string ⟨#[]⟩, .slice none 0 0, .slice none 0 0]).cells.toList = (List.range 5).map (fTch tch0) := rfl
  have HMK : Hid (∀ w2 : World, w2.ownsRow W4.heap.size 53 5 (.slice (some ⟨W4.heap.size, 0, none⟩) C.length C.length) C.length (madeCells (Value.agg #[.int .i64 0, .int .i64 0, .string ⟨#[]⟩, .slice none 0 0, .slice none 0 0]).cells (C.length * 5)).toList → W4.grownBy w2 none → KBlk w2 W4.heap.size 53 5 fTch (ownR ts C 0) [] ∧ Below W4.heap.size W4 w2) := by
    intro w2 h1 h2
    refine ⟨?_, ⟨h2.os, h2.tape, h2.output, h2.size, fun k hk => h2.block k hk (by simp)⟩⟩
    rw [ownR_zero]
    exact made_any (by decide) hzt h1
  clear hzt
  go_upto_region 5 with (at_make; refine wpList_make_full _ rfl _ _ 46 rfl W4.heap.size 53 i0 (.agg #[.int .i64 0, .int .i64 0, .string ⟨#[]⟩, .slice none 0 0, .slice none 0 0]) 5 Tryz.underlying46 HI0.out hi0 hi1 _ _ _ _ C.length rfl rfl rfl rfl (by rw [hi2]; omega) (by simp only [maxLen]; omega) (Nat.le_refl _) ?_; intro w2 hown2 hgrow2; have J0 := Lib.hid (HMK.out _ hown2 hgrow2); clear hown2 hgrow2 HMK)
  have k4' := lift_cell k4 _ J0.out.2
  have K3 := lift_cell k3
  clear k3 k4
  go_wp2_with fail
  clear k4'
  generalize hog : W4.heap.size = og at *
  have HOG := Lib.hid hog
  clear hog
  go_loopw [38] (fun t wr => ∃ i : Nat, i ≤ C.length ∧ t = .int .i64 i ∧ Hid (KBlk wr og 53 5 fTch (ownR ts C i) [] ∧ Below og W4 wr)) (fun t _ => C.length - (intOf t).toNat)
  case atStart => exact ⟨0, by omega, rfl, J0⟩
  case round =>
    obtain ⟨i, hi, rfl, J⟩ := hrel
    clear J0
    by_cases hlt : i < C.length
    · have hin3 : (wholeH W3).In wr := HIN3.out.below (by rw [HOG.out]; exact J.out.2)
      have hia : i < ats.length := by have := HATL.out; omega
      have hiC : i < C.length := by omega
      obtain ⟨ab, ao, hA, hbl, hca⟩ := HRA.out.at_ hin3 hia (by omega)
      have ha : ats[i] = (C[i] : Int) := by simp [HAT.out]
      have ca : wr.cell? ⟨ab, ao + i, none⟩ = some (.int .i64 (C[i] : Int)) := by
        have := hca 0 (by omega)
        rw [← ha]
        simpa [fI] using this
      have hq := HCT.out _ (List.getElem_mem hiC)
      obtain ⟨b, off, hT, hblT, hc⟩ := HTO.out.row.at_ (hin3.le HLE3.out) hq (by omega)
      have hta := tAt_lt hq
      generalize hCi : C[i] = q at *
      have d0 : wr.cell? ⟨b, off + q * 5, none⟩ = some (.int .i64 ts[q].no) := hc 0 (by omega)
      have d1 : wr.cell? ⟨b, off + q * 5 + 1, none⟩ = some (.int .i64 ts[q].at_) := hc 1 (by omega)
      have d2 : wr.cell? ⟨b, off + q * 5 + 2, none⟩ = some (.string ts[q].source) := hc 2 (by omega)
      have d3 : wr.cell? ⟨b, off + q * 5 + 3, none⟩ = some (.slice ts[q].ia ts[q].ids.length ts[q].ic) := hc 3 (by omega)
      have d4 : wr.cell? ⟨b, off + q * 5 + 4, none⟩ = some (.slice ts[q].fa ts[q].fields.length ts[q].fc) := hc 4 (by omega)
      have hol : (ownR ts C i).length = C.length := ownR_len (by omega)
      have hio : i < (ownR ts C i).length := by omega
      have o0 := J.out.1.cell i 0 hio (by omega)
      have o1 := J.out.1.cell i 1 hio (by omega)
      have o2 := J.out.1.cell i 2 hio (by omega)
      have o3 := J.out.1.cell i 3 hio (by omega)
      have o4 := J.out.1.cell i 4 hio (by omega)
      have f0 := J.out.1.frozen (i * 5)
      have f1 := J.out.1.frozen (i * 5 + 1)
      have f2 := J.out.1.frozen (i * 5 + 2)
      have f3 := J.out.1.frozen (i * 5 + 3)
      have f4 := J.out.1.frozen (i * 5 + 4)
      have hput := J.out.1.put i hio ts[q]
      have hsc : (ownR ts C i).set i ts[q] = ownR ts C (i + 1) := by rw [← hta, ← hCi]; exact ownR_succ hiC
      rw [hsc] at hput
      have hth : wr.there og (i * 5) 5 := fun j hj => ⟨by rw [J.out.1.cell i j hio hj]; rfl, J.out.1.frozen _⟩
      have J2 : Hid (KBlk (wr.setCells og (i * 5) #[.int .i64 ts[q].no, .int .i64 ts[q].at_, .string ts[q].source, .slice ts[q].ia ts[q].ids.length ts[q].ic, .slice ts[q].fa ts[q].fields.length ts[q].fc].toList) og 53 5 fTch (ownR ts C (i + 1)) [] ∧ Below og W4 (wr.setCells og (i * 5) #[.int .i64 ts[q].no, .int .i64 ts[q].at_, .string ts[q].source, .slice ts[q].ia ts[q].ids.length ts[q].ic, .slice ts[q].fa ts[q].fields.length ts[q].fc].toList)) :=
        ⟨hput, ((((J.out.2.setCell (p := ⟨og, i * 5, none⟩) (Nat.le_refl _) _).setCell (p := ⟨og, i * 5 + 1, none⟩) (Nat.le_refl _) _).setCell (p := ⟨og, i * 5 + 2, none⟩) (Nat.le_refl _) _).setCell (p := ⟨og, i * 5 + 3, none⟩) (Nat.le_refl _) _).setCell (p := ⟨og, i * 5 + 4, none⟩) (Nat.le_refl _) _⟩
      have HTH := Lib.hid hth
      clear hth
      subst hA hT
      have hqt : (q : Int) < (ts.length : Int) := by omega
      clear hput hsc hta hCi hc hca ha hin3 hbl hblT hol J
      clear o0 o1 o2 o3 o4 f0 f1 f2 f3 f4
      go_wp2_with (refine wpList_store_mid rfl 53 _ _ rfl og (i * 5) #[.int .i64 ts[q].no, .int .i64 ts[q].at_, .string ts[q].source, .slice ts[q].ia ts[q].ids.length ts[q].ic, .slice ts[q].fa ts[q].fields.length ts[q].fc] rfl rfl HTH.out (by kernel_rfl) (by simp [Value.oneCell']) ?_; generalize wr.setCells og (i * 5) #[.int .i64 ts[q].no, .int .i64 ts[q].at_, .string ts[q].source, .slice ts[q].ia ts[q].ids.length ts[q].ic, .slice ts[q].fa ts[q].fields.length ts[q].fc].toList = W9 at J2 ⊢)
      go_roundw
      case rel => exact ⟨i + 1, by omega, by go_num, J2⟩
      case measure => simp [intOf]; omega
    · have hie : i = C.length := by omega
      subst hie
      have hHs : W3.heap.size ≤ og := by have h1 := HN3.out.size; have h2 := HOG.out; have h3 := HMB.out; omega
      have hb35 : Below W3.heap.size W3 wr := by
        have h1 := HN3.out
        rw [← HMB.out] at h1
        exact h1.trans (J.out.2.mono hHs)
      have HB5 := Lib.hid (HB3.out.trans (hb35.mono HB3.out.size))
      have hk5 := K3 wr J.out.2
      have y0' := lift_cell y0 _ hb35
      have y1' := lift_cell y1 _ hb35
      have y2' := lift_cell y2 _ hb35
      have y3' := lift_cell y3 _ hb35
      have HL35 : Hid ((wholeH W3).Le (wholeH wr)) := fun b o h => (hb35.block b (lt_of_heap h)).trans h
      have hkb := J.out.1
      rw [ownR_all] at hkb
      have HTO5 : Hid (TchIn (wholeH wr) (some ⟨og, 0, none⟩) (ownT ts C)) := ⟨hkb.rwH, fun t htm => ⟨((HTO.out.inn t (own_mem HCT.out htm)).ids.le HLE3.out).le HL35.out, ((HTO.out.inn t (own_mem HCT.out htm)).fds.le HLE3.out).le HL35.out⟩⟩
      have hol : (ownT ts C).length = C.length := own_len ts C
      have HNG := Lib.hid (newGroup_any (wholeH wr) r (some ⟨og, 0, none⟩) C.length (ownT ts C) wr (wholeH_in wr) HTO5.out (by omega) (fun t htm => ⟨by have := (HR9.out t (own_mem HCT.out htm)).len; omega, fun x hx => fit_of ((HR9.out t (own_mem HCT.out htm)).idE x hx), rising_ne (HR9.out t (own_mem HCT.out htm)).ids⟩))
      rw [hol] at HNG
      have HOL := Lib.hid hol
      clear hol hkb hHs J K3 y0 y1 y2 y3 HN3 HIN3 hb35 HMB HOG
      generalize wr = W5 at *
      go_wp2_with fail
      refine HNG.out.mono ?_
      rintro e W6 ⟨gp2, bm2, nm2, m2, rfl, hS, hgo, hgp⟩
      have hb6 := hS.bel
      have HB6 := Lib.hid (HB5.out.trans (hb6.mono HB5.out.size))
      have hgw : w.heap.size ≤ gp2 := by have := HB5.out.size; omega
      have x0 := lift_cell y0' _ hb6
      have x1 := lift_cell y1' _ hb6
      have x2 := lift_cell y2' _ hb6
      have x3 := lift_cell y3' _ hb6
      have hk6 := lift_cell hk5 _ hb6
      rw [HOL.out] at hgo
      have HS := Lib.hid hS
      have HGO := Lib.hid hgo
      have HL56 : Hid ((wholeH W5).Le (wholeH W6)) := fun b o h => (hb6.block b (lt_of_heap h)).trans h
      have HG5 : Hid (∀ b o, wholeH W5 b = some o → b ≠ gp2) := fun b o h => by have := lt_of_heap h; omega
      have Y0 := wholeH_cell y0'
      have Y1 := wholeH_cell y1'
      have Y2 := wholeH_cell y2'
      have Y3 := wholeH_cell hk5
      clear y0' y1' y2' y3' hk5 HNG hS hgp
      have c1 := cell_h hgo 1 (v := .int .i64 r.most) rfl
      have f1 := froz_h hgo 1
      clear hgo hb6
      obtain ⟨M, hM⟩ : ∃ M : Int, max (C.length : Int) 2 = M := ⟨_, rfl⟩
      go_upto_region 12 with (fail)
      have HM2 : Hid ((C.length : Int) ≤ M) := by show _ ≤ _; omega
      clear hM c1 f1
      have HX0 : Hid (∀ W, (wholeH W5).In W → W.cell? ⟨w.heap.size, 0, none⟩ = some (.slice r.ka r.kinds.length r.kc) ∧ W.cell? ⟨w.heap.size, 1, none⟩ = some (.int .i64 r.most) ∧ W.cell? ⟨w.heap.size, 2, none⟩ = some (.slice r.wa r.weaks.length r.wc) ∧ W.cell? ⟨mb, 3, none⟩ = some (.slice iA ids.length ic)) := fun W hW => ⟨hW.cell Y0, hW.cell Y1, hW.cell Y2, hW.cell Y3⟩
      have HH6 : Hid ((wholeH W5).In W6) := fun b o h => HL56.out b o h
      have HGN : Hid (wholeH W5 gp2 = none) := by
        show _ = _
        cases e : wholeH W5 gp2 with
        | none => rfl
        | some o => exact absurd rfl (HG5.out gp2 o e)
      have hin7 : (wholeH W5).In (W6.setCell ⟨gp2, 1, none⟩ (.int .i64 M)) := HH6.out.setCell (p := ⟨gp2, 1, none⟩) HGN.out _
      have HRW5 : Hid (RulIn (wholeH W5) r) := (HTO.out.rul.le HLE3.out).le HL35.out
      have HCL := Lib.hid (clone_Id (wholeH W5) fId r.weaks (fun d _ m => by match m with | 0 => rfl | _ + 1 => rfl) r.wa r.wc _ hin7 HRW5.out.w (by have := HRU.out.wl; omega))
      obtain ⟨-, -, x2', -⟩ := HX0.out _ hin7
      clear x0 x1 x2 x3 hk6 Y0 Y1 Y2 Y3 HG5 hin7
      go_wp2_with fail
      refine HCL.out.mono ?_
      rintro e W8 ⟨⟨v8, rfl, ho8⟩, hb8⟩
      obtain ⟨wa0, wc0, rfl, -⟩ := ho8.slice
      obtain ⟨q2, f2, hD0⟩ := CutS.start HGO.out HB6.out hgw hb8 ho8
      have D0 := Lib.hid hD0
      clear HCL x2' ho8 hb8 hD0
      have hk9 := (HX0.out _ (D0.out.inn HH6.out HGN.out)).2.2.2
      go_wp2_with fail
      clear q2 f2 hk9
      have hidl : ids.length ≤ 2000 := by
        have h1 := idsOk_len HIDS.out
        have h2 := flatMap_le (m := 20) (fun q => (tAt ts q).ids) C (fun q hq => by have := (HR9.out _ (tAt_mem (HCT.out q hq))).len; omega)
        omega
      have HFI : Hid (∀ x ∈ ids, FitId x) := fun x hx => by
        obtain ⟨q, hq, hx2⟩ := List.mem_flatMap.1 ((HIDS.out.2 x).1 hx)
        exact fit_of ((HR9.out _ (tAt_mem (HCT.out q hq))).idE x hx2)
      go_loopw [72] (fun t wr => ∃ (i : Nat) (wa : Option Addr) (wc : Nat) (ws : List IdD), i ≤ ids.length ∧ t = .int .i64 i ∧ Hid (CutS w W6 gp2 bm2 r M (some ⟨og, 0, none⟩) C.length C.length wa wc ws wr) ∧ Hid (ws = r.weaks ++ (ids.take i).filter (overB r ts))) (fun t _ => ids.length - (intOf t).toNat)
      case atStart => exact ⟨0, wa0, wc0, r.weaks, by omega, rfl, D0, by show _ = _; simp⟩
      case round =>
        clear D0
        obtain ⟨i, wa, wc, ws, hi, rfl, D, HWS⟩ := hrel
        by_cases hlt : i < ids.length
        · have hin5 := D.out.inn HH6.out HGN.out
          have hin3 : (wholeH W3).In wr := hin5.le HL35.out
          obtain ⟨b, off, hA, hbl, hc⟩ := HRI.out.at_ hin3 hlt (by omega)
          have c0 : wr.cell? ⟨b, off + i * 2, none⟩ = some (.int .i64 ids[i].kind) := hc 0 (by omega)
          have c1 : wr.cell? ⟨b, off + i * 2 + 1, none⟩ = some (.string ids[i].text) := hc 1 (by omega)
          have hfx := HFI.out _ (List.getElem_mem hlt)
          have HTK : Hid ((ids.take (i + 1)).filter (overB r ts) = (ids.take i).filter (overB r ts) ++ if overB r ts ids[i] = true then [ids[i]] else []) := by
            show _ = _
            rw [List.take_succ_eq_append_getElem hlt, List.filter_append]
            congr 1
            by_cases c : overB r ts ids[i] = true
            · rw [if_pos c, List.filter_cons_of_pos c]; rfl
            · rw [if_neg c, List.filter_cons_of_neg c]; rfl
          have hwsl : ws.length ≤ 4000 := by
            rw [HWS.out, List.length_append]
            have h1 := HRU.out.wl
            have h2 := List.length_filter_le (overB r ts) (ids.take i)
            rw [List.length_take] at h2
            omega
          subst hA
          generalize ids[i] = x at *
          obtain ⟨lB, lc, hlk⟩ := HG.out.look hfx
          clear hc hbl
          have D1 := Lib.hid (D.out.alloc (.cells #[.int .i64 x.kind, .string x.text] 55))
          have HXB := Lib.hid (heap_alloc_new wr (.cells #[.int .i64 x.kind, .string x.text] 55))
          have HXL : Hid (∀ g, (Value.slice wa ws.length wc).ownBlock = some g → g < wr.heap.size) := fun g hg => (D.out.row.lt hg).2
          clear hin5 hin3 D
          go_upto_region 16 with (fail)
          clear c0 c1
          generalize wr.alloc (.cells #[.int .i64 x.kind, .string x.text] 55) = W9 at *
          generalize wr.heap.size = xb at *
          have hin5 := D1.out.inn HH6.out HGN.out
          have hgc := (hin5.le HL35.out) gp _ HG.out.obj
          have K5 := lift_cell (cell_h hgc 5 (v := .map (some bm)) rfl)
          have K1 := lift_cell (HX0.out _ hin5).2.1
          have J0 := lift_cell (cell_h HXB.out 0 (v := .int .i64 x.kind) rfl)
          have J1 := lift_cell (cell_h HXB.out 1 (v := .string x.text) rfl)
          have HLL : ∀ W : World, Below W9.heap.size W9 W → (Instr.lookup 150 (.map (some bm)) (.agg #[.int .i64 x.kind, .string x.text]) false).run Tryz.prog W = .ok (.slice lB (posL ts x).length lc) W := fun W hW => hlk W ((hin5.below hW).le HL35.out)
          clear hgc hlk hin5
          have hpl := posL_many ts x
          have HOV : Hid (overB r ts x = decide (r.most < ((posL ts x).length : Int))) := by show _ = _; unfold overB; rw [hpl]
          clear hpl
          generalize overB r ts x = ov at HTK HOV
          generalize (posL ts x).length = pl at *
          (refine wp_region_det 9 137 (fun W => Below (W9).heap.size (W9) W) (by kernel_rfl) (by kernel_rfl) (by rfl) (Below.refl _ _).drew ?_; simp only [List.take_succ_cons, List.take_zero, List.drop_succ_cons, List.drop_zero])
          iterate 9 (refine detSeq_op rfl ?_ (fun W hW => ?_) ?_; rotate_left; (focus simp only [OpV]; go_simp; first | exact rfl | exact ⟨rfl, hW⟩))
          refine detSeq_nil (fun W10 hW10 => ?_)
          have D2 := Lib.hid (D1.out.call hW10)
          have HXB2 : Hid (W10.heap[xb]? = some (.cells #[.int .i64 x.kind, .string x.text] 55 (0, 0))) := (hW10.block xb (lt_of_heap HXB.out)).trans HXB.out
          clear hW10 K5 K1 J0 J1 HLL D1 HXB
          cases ov with
          | false =>
            have kk := HOV.out.symm
            go_wp2_with fail
            go_roundw
            case rel => exact ⟨i + 1, wa, wc, ws, by omega, by go_num, D2, by show _ = _; rw [HTK.out, HWS.out]; simp⟩
            case measure => simp [intOf]; omega
          | true =>
            have kk := HOV.out.symm
            go_upto_region 17 with (fail)
            clear kk
            generalize W10 = W9 at *
            have HROWS : Hid (∀ t ∈ (tsCu (.slice wa ws.length wc) W6.heap.size ws.length (cellsOf 2 fId ws) (cellsOf 2 fId ws ++ cellsOf 2 fId [x])), W9.ownsRow t.B t.T t.k t.v t.n t.xs) := by
              intro t ht
              simp only [tsCu, List.mem_cons, List.not_mem_nil, or_false] at ht
              subst ht
              exact D2.out.row
            have HAPT : Hid ((tsCu (.slice wa ws.length wc) W6.heap.size ws.length (cellsOf 2 fId ws) (cellsOf 2 fId ws ++ cellsOf 2 fId [x])).Pairwise fun t u => apart t.v u.v) := List.pairwise_singleton _ _
            have HLT0 : Hid (∀ g, (Value.slice wa ws.length wc).ownBlock = some g → g < W9.heap.size) := fun g hg => (D2.out.row.lt hg).2
            have HGE : Hid (∀ t ∈ (tsCu (.slice wa ws.length wc) W6.heap.size ws.length (cellsOf 2 fId ws) (cellsOf 2 fId ws ++ cellsOf 2 fId [x])), ∀ g, t.v.ownBlock = some g → W6.heap.size ≤ g ∧ g ≠ xb) := by
              intro t ht g hg
              simp only [tsCu, List.mem_cons, List.not_mem_nil, or_false] at ht
              subst ht
              exact ⟨(D2.out.row.lt hg).1, fun c => by have := HXL.out g hg; omega⟩
            have HSZ9 : Hid (W6.heap.size ≤ W9.heap.size) := D2.out.sz
            have HALL : Hid (∀ W L a, RowsJ W9 (tsCu (.slice wa ws.length wc) W6.heap.size ws.length (cellsOf 2 fId ws) (cellsOf 2 fId ws ++ cellsOf 2 fId [x])) L a W → W.cell? ⟨gp2, 2, none⟩ = some (.slice wa ws.length wc) ∧ W.cell? ⟨xb, 0, none⟩ = some (.int .i64 x.kind) ∧ W.cell? ⟨xb, 1, none⟩ = some (.string x.text)) := fun W L a h => by
              have h1 := (h.keep gp2 (lt_of_heap D2.out.obj) (fun t ht c => by have := (HGE.out t ht _ c).1; have := D2.out.gl; omega)).trans D2.out.obj
              have h2 := (h.keep xb (lt_of_heap HXB2.out) (fun t ht c => (HGE.out t ht _ c).2 rfl)).trans HXB2.out
              exact ⟨cell_h h1 2 rfl, cell_h h2 0 rfl, cell_h h2 1 rfl⟩
            refine wp_region_concV 9 137 (φCu W9.heap.size (.slice wa ws.length wc) gp2 x) (RowsJ W9 (tsCu (.slice wa ws.length wc) W6.heap.size ws.length (cellsOf 2 fId ws) (cellsOf 2 fId ws ++ cellsOf 2 fId [x]))) (RowsE W9) (by kernel_rfl) (by kernel_rfl) (by rfl) (RowsJ.start HROWS.out HAPT.out _ _) (fun i x w w' _ e h => φCu_mono i x w w' e h) (fun i x w hi e _ => absurd e (by have hcs : i = 0 ∨ i = 1 ∨ i = 2 ∨ i = 3 ∨ i = 4 ∨ i = 5 ∨ i = 6 ∨ i = 7 ∨ i = 8 := (by omega); rcases hcs with rfl | rfl | rfl | rfl | rfl | rfl | rfl | rfl | rfl <;> decide)) ?_ ?_
            · intro n o hn ho a W2 L hr hsN hLs hJ hkn
              replace hsN : a.tmps.size = 137 := hsN
              have hcs : n = 0 ∨ n = 1 ∨ n = 2 ∨ n = 3 ∨ n = 4 ∨ n = 5 ∨ n = 6 ∨ n = 7 ∨ n = 8 := by omega
              rcases hcs with rfl | rfl | rfl | rfl | rfl | rfl | rfl | rfl | rfl
              · obtain rfl := Option.some.inj ho
                refine OpV.mono (R := fun v w' => φCu W9.heap.size (.slice wa ws.length wc) gp2 x 0 v w' ∧ Below W2.heap.size W2 w') ?_ (fun v w' h => ⟨h.1, hJ.step h.2 (rows_ne (li := [8]) (ls := [94]) rfl rfl (by decide) (by decide)) v, RowsE.of h.2⟩)
                exact ⟨hkn 14 (by decide), Below.refl _ _⟩
              · obtain rfl := Option.some.inj ho
                refine OpV.mono (R := fun v w' => φCu W9.heap.size (.slice wa ws.length wc) gp2 x 1 v w' ∧ Below W2.heap.size W2 w') ?_ (fun v w' h => ⟨h.1, hJ.step h.2 (rows_ne (li := [8]) (ls := [94]) rfl rfl (by decide) (by decide)) v, RowsE.of h.2⟩)
                exact ⟨hkn 14 (by decide), Below.refl _ _⟩
              · obtain rfl := Option.some.inj ho
                refine OpV.mono (R := fun v w' => φCu W9.heap.size (.slice wa ws.length wc) gp2 x 2 v w' ∧ Below W2.heap.size W2 w') ?_ (fun v w' h => ⟨h.1, hJ.step h.2 (rows_ne (li := [8]) (ls := [94]) rfl rfl (by decide) (by decide)) v, RowsE.of h.2⟩)
                have h0 := slotv (hkn 87 (by decide) : a.tmps.getD 87 undef = .pointer (some ⟨gp2, 0, none⟩))
                clear hkn ho
                simp only [OpV, execOp]
                simp [go_sem, h0]
                all_goals first | exact ⟨rfl, Below.refl _ _⟩ | exact Below.refl _ _
              · obtain rfl := Option.some.inj ho
                refine OpV.mono (R := fun v w' => φCu W9.heap.size (.slice wa ws.length wc) gp2 x 3 v w' ∧ Below W2.heap.size W2 w') ?_ (fun v w' h => ⟨h.1, hJ.step h.2 (rows_ne (li := [8]) (ls := [94]) rfl rfl (by decide) (by decide)) v, RowsE.of h.2⟩)
                have h0 := slotv (hkn 88 (by decide) : a.tmps.getD 88 undef = .pointer (some ⟨gp2, 0, none⟩))
                clear hkn ho
                simp only [OpV, execOp]
                simp [go_sem, h0]
                all_goals first | exact ⟨rfl, Below.refl _ _⟩ | exact Below.refl _ _
              · obtain rfl := Option.some.inj ho
                refine OpV.mono (R := fun v w' => φCu W9.heap.size (.slice wa ws.length wc) gp2 x 4 v w' ∧ Below W2.heap.size W2 w') ?_ (fun v w' h => ⟨h.1, hJ.step h.2 (rows_ne (li := [8]) (ls := [94]) rfl rfl (by decide) (by decide)) v, RowsE.of h.2⟩)
                have h0 := slotv (hkn 89 (by decide) : a.tmps.getD 89 undef = .pointer (some ⟨gp2, 0, none⟩))
                clear hkn ho
                simp only [OpV, execOp]
                simp [go_sem, h0]
                all_goals first | exact ⟨rfl, Below.refl _ _⟩ | exact Below.refl _ _
              · obtain rfl := Option.some.inj ho
                refine OpV.mono (R := fun v w' => φCu W9.heap.size (.slice wa ws.length wc) gp2 x 5 v w' ∧ Below W2.heap.size W2 w') ?_ (fun v w' h => ⟨h.1, hJ.step h.2 (rows_ne (li := [8]) (ls := [94]) rfl rfl (by decide) (by decide)) v, RowsE.of h.2⟩)
                have h0 := slotv (hkn 90 (by decide) : a.tmps.getD 90 undef = .pointer (some ⟨gp2, 2, none⟩))
                have hcc := (HALL.out W2 _ _ hJ).1
                clear hkn ho
                simp only [OpV, execOp]
                simp [go_sem, h0, hcc]
                all_goals first | exact ⟨rfl, Below.refl _ _⟩ | exact Below.refl _ _
              · obtain rfl := Option.some.inj ho
                refine OpV.mono (R := fun v w' => φCu W9.heap.size (.slice wa ws.length wc) gp2 x 6 v w' ∧ Below W2.heap.size W2 w') ?_ (fun v w' h => ⟨h.1, hJ.step h.2 (rows_ne (li := [8]) (ls := [94]) rfl rfl (by decide) (by decide)) v, RowsE.of h.2⟩)
                have h0 := slotv (hkn 16 (by decide) : a.tmps.getD 16 undef = .pointer (some ⟨xb, 0, none⟩))
                have hcc := (HALL.out W2 _ _ hJ).2.1
                have hcd := (HALL.out W2 _ _ hJ).2.2
                clear hkn ho
                simp only [OpV, execOp]
                simp [go_sem, h0, hcc, hcd]
                all_goals first | exact ⟨rfl, Below.refl _ _⟩ | exact Below.refl _ _
              · obtain rfl := Option.some.inj ho
                refine OpV.mono (R := fun v w' => φCu W9.heap.size (.slice wa ws.length wc) gp2 x 7 v w' ∧ Below W2.heap.size W2 w') ?_ (fun v w' h => ⟨h.1, hJ.step h.2 (rows_ne (li := [8]) (ls := [94]) rfl rfl (by decide) (by decide)) v, RowsE.of h.2⟩)
                have h0 := slotv (hkn 92 (by decide) : a.tmps.getD 92 undef = .agg #[.int .i64 x.kind, .string x.text])
                clear hkn ho
                simp only [OpV, execOp]
                simp [go_sem, h0]
                exact ⟨⟨W2.heap.size, rfl, hJ.size, heap_alloc_new _ _⟩, new1 _⟩
              · obtain rfl := Option.some.inj ho
                have h1 : a.tmps.getD 91 undef = .slice wa ws.length wc := hkn 91 (by decide)
                obtain ⟨b, h2, hb0, hh⟩ : TmpS W9.heap.size (a.tmps.getD 93 undef) #[.int .i64 x.kind, .string x.text] 55 W2 := hkn 93 (by decide)
                exact OpV.mono (hJ.app (t := ⟨8, 94, .slice wa ws.length wc, W6.heap.size, 55, 2, ws.length, cellsOf 2 fId ws, ws.length + 1, cellsOf 2 fId ws ++ cellsOf 2 fId [x]⟩) (by simp [tsCu]) rfl (ready_not hr (by show (8 : Nat) < L.size; rw [hLs]; decide)) (by show (8 : Nat) < L.size; rw [hLs]; decide) (by show (94 : Nat) < a.tmps.size; rw [hsN]; decide) (rows_other (li := [8]) (ls := [94]) rfl rfl (by decide) (by decide) (by simp [tsCu])) (nodup_of_map (f := RowT.i) (show ([8] : List Nat).Nodup by decide)) (HLT0.out) (.tmp 91) (.tmp 93) 41 rfl j0 (.agg #[.int .i64 0, .string ⟨#[]⟩]) 24 Tryz.underlying41 HJ0.out hj0 hj1 hj2 rfl (show (0 : Nat) < 2 by decide) (by simpa [Act.eval, tsCu] using h1) b #[.int .i64 x.kind, .string x.text] 55 (by simpa [Act.eval] using h2) hh rfl (by simp [Value.oneCell']) rfl rfl (by show ws.length ≤ _; omega) (by decide) (by have := HSZ9.out; show W6.heap.size ≤ _; omega)) (fun v w' h => ⟨trivial, h.1, h.2⟩)
            · intro yv W11 L11 hL11 hW11 hgt hφ
              have ho := tsCu_own hW11 (hL11 8 (by decide)) (hgt 8 94 rfl)
              have hO : Orow W11 W6.heap.size 55 2 fId (yv 8) (ws ++ [x]) := by
                show World.ownsRow _ _ _ _ _ _ _
                rw [cellsOf_split, List.length_append]
                exact ho
              have hgr : W9.grownBy W11 (Value.slice wa ws.length wc).ownBlock := ⟨hW11.os, hW11.tape, hW11.output, hW11.size, fun k hk hne => hW11.keep k hk (fun t ht c => by
                simp only [tsCu, List.mem_cons, List.not_mem_nil, or_false] at ht
                subst ht
                exact hne c.symm)⟩
              have e0 : yv 0 = .pointer (some ⟨gp2, 0, none⟩) := by
                rcases hφ 0 (by decide) with h | ⟨h, -⟩
                · exact h
                · exact absurd h (by decide)
              obtain ⟨q2, f2, A9, c9, e8, hD9⟩ := D2.out.app hO hgr
              have hl9 : (ws ++ [x]).length = ws.length + 1 := by simp
              rw [hl9] at e8
              have D9 := Lib.hid hD9
              rw [e8] at D9
              clear ho hO hgr hgt hφ hL11 hW11 hD9 hl9 D2 HROWS HAPT HLT0 HGE HALL HXB2
              simp only [List.drop_succ_cons, List.drop_zero, List.take_succ_cons, List.take_zero, putAll, Nat.reduceAdd, e0, e8]
              clear e0 e8
              generalize yv 1 = y1
              generalize yv 2 = y2
              generalize yv 3 = y3
              generalize yv 4 = y4
              generalize yv 5 = y5
              generalize yv 6 = y6
              generalize yv 7 = y7
              go_wp2_with fail
              go_roundw
              case rel => exact ⟨i + 1, _, _, _, by omega, by go_num, D9, by show _ = _; rw [HTK.out, HWS.out]; simp⟩
              case measure => simp [intOf]; omega
        · have hie : i = ids.length := by omega
          subst hie
          rw [List.take_length] at HWS
          have hwsl : ws.length ≤ 4000 := by
            rw [HWS.out, List.length_append]
            have h1 := HRU.out.wl
            have h2 := List.length_filter_le (overB r ts) ids
            omega
          have hdo := D.out.obj
          have q2 := cell_h hdo 2 (v := .slice wa ws.length wc) rfl
          have HSF := Lib.hid (sortFunc_Id idCmp idCmp_ok 36 #[] (fun _ _ => by kernel_rfl) (fun W a b => compareIds_g a b W) W6.heap.size (.slice wa ws.length wc) ws wr D.out.row (by omega))
          clear hdo
          go_wp2_with fail
          clear q2
          refine HSF.out.mono ?_
          rintro e W12 ⟨rfl, ws', hperm, hsrt, ho12, hg12⟩
          have D2 := Lib.hid (D.out.sorted hperm.length_eq ho12 hg12)
          have HPM : Hid (ws'.Perm (r.weaks ++ ids.filter (overB r ts))) := by rw [← HWS.out]; exact hperm
          have HSR : Hid (SortI ws') := hsrt
          have hwl' : ws'.length ≤ 4000 := by rw [hperm.length_eq]; exact hwsl
          clear HSF hperm hsrt ho12 hg12 D HWS hwsl
          have hin12 := D2.out.inn HH6.out HGN.out
          have hGI := D2.out.grp HOL.out HS.out HGO.out hin12 HRW5.out HTO5.out
          have HGI := Lib.hid hGI
          have HB12 := Lib.hid D2.out.bel
          obtain ⟨-, -, -, hk12⟩ := HX0.out _ hin12
          have HIN12 : Hid ((wholeH W5).In W12) := hin12
          have HJO := Lib.hid (own_joins HIDS.out HPM.out HM2.out)
          clear hin12 hGI D2 HPM HX0
          have HO0 : Hid (Orow W12 W12.heap.size 55 2 fId (.slice none 0 0) ([] : List IdD)) := Orow.nil _ _ _ _ _
          have HSP0 : Hid (∀ y, y ∈ ([] : List IdD) ↔ y ∈ ids.take 0 ∧ ¬ WholeD (JD r ts) ts C y) := fun y => by simp
          go_wp2_with fail
          clear hk12
          go_loopw [17, 109] (fun v t wr => ∃ (i : Nat) (cs : List IdD), i ≤ ids.length ∧ t = .int .i64 i ∧ Hid (Orow wr W12.heap.size 55 2 fId v cs) ∧ Hid (Below W12.heap.size W12 wr) ∧ Hid (∀ y, y ∈ cs ↔ y ∈ ids.take i ∧ ¬ WholeD (JD r ts) ts C y) ∧ cs.length ≤ i) (fun _ t _ => ids.length - (intOf t).toNat)
          case atStart => exact ⟨0, [], by omega, rfl, HO0, Below.refl _ _, HSP0, by simp⟩
          case round =>
            clear HO0 HSP0
            obtain ⟨i, cs, hi, rfl, HO, HB, HSP, hcl⟩ := hrel
            obtain ⟨vA, vc, hv, -⟩ := HO.out.slice
            subst hv
            by_cases hlt : i < ids.length
            · have hin5 := HIN12.out.below HB.out
              have hin3 : (wholeH W3).In wr := hin5.le HL35.out
              obtain ⟨b, off, hA, hbl, hc⟩ := HRI.out.at_ hin3 hlt (by omega)
              have c0 : wr.cell? ⟨b, off + i * 2, none⟩ = some (.int .i64 ids[i].kind) := hc 0 (by omega)
              have c1 : wr.cell? ⟨b, off + i * 2 + 1, none⟩ = some (.string ids[i].text) := hc 1 (by omega)
              have hfx := HFI.out _ (List.getElem_mem hlt)
              obtain ⟨qx, hqC, hqx⟩ := List.mem_flatMap.1 ((HIDS.out.2 _).1 (List.getElem_mem hlt))
              have hCpos : 0 < C.length := List.length_pos_of_mem hqC
              have hjx : joinsD r.kinds M ws' (ownT ts C) ids[i] = JD r ts ids[i] := HJO.out qx hqC _ hqx
              have HYES : Hid (¬ WholeD (JD r ts) ts C ids[i] → ∀ y, y ∈ cs ++ [ids[i]] ↔ y ∈ ids.take (i + 1) ∧ ¬ WholeD (JD r ts) ts C y) := fun hw y => by
                rw [List.take_succ_eq_append_getElem hlt, List.mem_append, List.mem_append, HSP.out y, List.mem_singleton]
                constructor
                · rintro (h | h)
                  · exact ⟨Or.inl h.1, h.2⟩
                  · subst h; exact ⟨Or.inr rfl, hw⟩
                · rintro ⟨h | h, h2⟩
                  · exact Or.inl ⟨h, h2⟩
                  · exact Or.inr h
              have HNO : Hid (WholeD (JD r ts) ts C ids[i] → ∀ y, y ∈ cs ↔ y ∈ ids.take (i + 1) ∧ ¬ WholeD (JD r ts) ts C y) := fun hw y => by
                rw [List.take_succ_eq_append_getElem hlt, List.mem_append, HSP.out y, List.mem_singleton]
                constructor
                · exact fun h => ⟨Or.inl h.1, h.2⟩
                · rintro ⟨h | h, h2⟩
                  · exact ⟨h, h2⟩
                  · subst h; exact absurd hw h2
              subst hA
              generalize ids[i] = x at *
              obtain ⟨lB, lc, hlk⟩ := HGI.out.look hfx
              have HFX := Lib.hid hfx
              clear hc hbl hqC hqx hin5 hin3 HSP hfx
              have HB1 := Lib.hid (HB.out.trans ((new1 (w := wr) (.cells #[.int .i64 x.kind, .string x.text] 55)).mono HB.out.size))
              have HO1 := Lib.hid (HO.out.below (new1 (w := wr) (.cells #[.int .i64 x.kind, .string x.text] 55)))
              have HXB := Lib.hid (heap_alloc_new wr (.cells #[.int .i64 x.kind, .string x.text] 55))
              clear HB HO
              go_upto_region 24 with (fail)
              clear c0 c1
              generalize wr.alloc (.cells #[.int .i64 x.kind, .string x.text] 55) = W13 at *
              generalize wr.heap.size = xb at *
              have hinW : (wholeH W12).In W13 := (wholeH_in W12).below HB1.out
              have hgc := hinW gp2 _ HGI.out.obj
              have K5 := lift_cell (cell_h hgc 5 (v := .map (some bm2)) rfl)
              have J0 := lift_cell (cell_h HXB.out 0 (v := .int .i64 x.kind) rfl)
              have J1 := lift_cell (cell_h HXB.out 1 (v := .string x.text) rfl)
              have HLL : ∀ W : World, Below W13.heap.size W13 W → (Instr.lookup 150 (.map (some bm2)) (.agg #[.int .i64 x.kind, .string x.text]) false).run Tryz.prog W = .ok (.slice lB (posL (ownT ts C) x).length lc) W := fun W hW => hlk W (hinW.below hW)
              have HJA := Lib.hid (fun W (hW : Below W13.heap.size W13 W) => joins_any HGI.out HSR.out (by show ws'.length ≤ _; omega) (by show r.kinds.length ≤ _; have := HRU.out.kl; omega) x HFX.out W (hinW.below hW))
              have hje : joinsD (inR r M wa wc ws').kinds (inR r M wa wc ws').most (inR r M wa wc ws').weaks (ownT ts C) x = JD r ts x := hjx
              rw [hje] at HJA
              have HPM2 := Lib.hid (posL_many (ownT ts C) x)
              clear hgc hlk hjx hje
              generalize hjv : JD r ts x = jv at HJA
              have HJV := Lib.hid hjv
              clear hjv
              generalize hpl : (posL (ownT ts C) x).length = pl at *
              cases jv with
              | false =>
                have hwh := Lib.hid (HNO.out (whole_free HUF.out HCC.out (Or.inl HJV.out)))
                (refine wp_region_det 13 137 (fun W => Below (W13).heap.size (W13) W) (by kernel_rfl) (by kernel_rfl) (by rfl) (Below.refl _ _).drew ?_; simp only [List.take_succ_cons, List.take_zero, List.drop_succ_cons, List.drop_zero])
                iterate 2 (refine detSeq_op rfl ?_ (fun W hW => ?_) ?_; rotate_left; (focus simp only [OpV]; go_simp; first | exact rfl | exact ⟨rfl, hW⟩))
                (refine detSeq_op rfl ?_ (fun W hW => ?_) ?_; rotate_left; focus (simp only [OpV]; go_simp; refine (HJA.out W hW).mono ?_; rintro e w' ⟨rfl, hb⟩; refine ⟨_, rfl, ?_, det_back hW hb⟩; exact rfl))
                iterate 2 (refine detSeq_op rfl ?_ (fun W hW => ?_) ?_; rotate_left; (focus simp only [OpV]; go_simp; first | exact rfl | exact ⟨rfl, hW⟩))
                iterate 8 (refine detSeq_no (by kernel_rfl) ?_)
                refine detSeq_nil (fun W14 hW14 => ?_)
                have HB2 := Lib.hid (HB1.out.trans (hW14.mono HB1.out.size))
                have HO2 := Lib.hid (HO1.out.below hW14)
                clear hW14 K5 J0 J1 HLL HB1 HO1 HYES HNO HJA hpl hinW
                go_wp2_with fail
                go_roundw
                case rel => exact ⟨i + 1, cs, by omega, by go_num, HO2, HB2, hwh, by omega⟩
                case measure => simp [intOf]; omega
              | true =>
                (refine wp_region_det 13 137 (fun W => Below (W13).heap.size (W13) W) (by kernel_rfl) (by kernel_rfl) (by rfl) (Below.refl _ _).drew ?_; simp only [List.take_succ_cons, List.take_zero, List.drop_succ_cons, List.drop_zero])
                iterate 2 (refine detSeq_op rfl ?_ (fun W hW => ?_) ?_; rotate_left; (focus simp only [OpV]; go_simp; first | exact rfl | exact ⟨rfl, hW⟩))
                (refine detSeq_op rfl ?_ (fun W hW => ?_) ?_; rotate_left; focus (simp only [OpV]; go_simp; refine (HJA.out W hW).mono ?_; rintro e w' ⟨rfl, hb⟩; refine ⟨_, rfl, ?_, det_back hW hb⟩; exact rfl))
                iterate 2 (refine detSeq_op rfl ?_ (fun W hW => ?_) ?_; rotate_left; (focus simp only [OpV]; go_simp; first | exact rfl | exact ⟨rfl, hW⟩))
                iterate 8 (refine detSeq_yes (by kernel_rfl) ?_ (fun W hW => ?_) ?_; rotate_left; (focus simp only [OpV]; go_simp; first | exact rfl | exact ⟨rfl, hW⟩))
                refine detSeq_nil (fun W14 hW14 => ?_)
                have HB2 := Lib.hid (HB1.out.trans (hW14.mono HB1.out.size))
                have HO2 := Lib.hid (HO1.out.below hW14)
                have hinX : (wholeH W12).In W14 := hinW.below hW14
                have hj0' := wholeH_cell (J0 W14 hW14)
                have hj1' := wholeH_cell (J1 W14 hW14)
                have HPL := Lib.hid hpl
                clear hpl
                by_cases g2 : pl < 2
                · have kk : decide ((pl : Int) < 2) = true := by simp; omega
                  have hwh := Lib.hid (HNO.out (whole_free HUF.out HCC.out (Or.inr (by rw [← HPM2.out]; exact g2))))
                  clear hW14 K5 J0 J1 HLL HB1 HO1 HYES HNO HJA hinW hinX hj0' hj1' g2
                  go_wp2_with fail
                  go_roundw
                  case rel => exact ⟨i + 1, cs, by omega, by go_num, HO2, HB2, hwh, by omega⟩
                  case measure => simp [intOf]; omega
                · have kk : decide ((pl : Int) < 2) = false := by simp; omega
                  have HPO := Lib.hid (partsO_any (HGI.out.le (H' := wholeH W14) (fun b o h => hinX b o h)) HSR.out (by show ws'.length ≤ _; omega) (by show r.kinds.length ≤ _; have := HRU.out.kl; omega) (by have := HOL.out; omega) (fun t htm y hy => fit_of ((HR9.out t (own_mem HCT.out htm)).idE y hy)) x xb hj0' hj1' W14 (wholeH_in W14))
                  have HX14 : Hid (W14.heap[xb]? = some (.cells #[.int .i64 x.kind, .string x.text] 55 (0, 0))) := (hW14.block xb (lt_of_heap HXB.out)).trans HXB.out
                  clear hW14 K5 J0 J1 HLL HB1 HO1 HJA hinW hinX hj0' hj1' g2 HXB
                  go_wp2_with fail
                  refine HPO.out.mono ?_
                  rintro e W15 ⟨rq, qg, rfl, huq, hblk, hb15, hge15⟩
                  have hiff := whole_own HUF.out HCC.out HJO.out (rq := rq) huq
                  rw [HOL.out] at hblk ⊢
                  have HB3 := Lib.hid (HB2.out.trans (hb15.mono HB2.out.size))
                  have HO3 := Lib.hid (HO2.out.below hb15)
                  have HX15 : Hid (W15.heap[xb]? = some (.cells #[.int .i64 x.kind, .string x.text] 55 (0, 0))) := (hb15.block xb (lt_of_heap HX14.out)).trans HX14.out
                  clear HX14
                  have HMX := Lib.hid (Tryz.slices_Max_int qg 0 C.length C.length (tab C.length fun k => ((repN rq k : Nat) : Int)) W15 hCpos (by rw [tab_len]; exact Nat.le_refl _) (by omega) (fun j hj => by
                    have h1 := hblk.cell1 j hj
                    rw [Nat.zero_add, h1]
                    simp [List.getD_eq_getElem?_getD, List.getElem?_eq_getElem hj, fI]))
                  rw [List.take_of_length_le (by rw [tab_len]; exact Nat.le_refl _)] at HMX
                  have hmx := maxOf_tab hCpos (repN rq)
                  have HMI : Hid (0 < Lib.maxOf (tab C.length fun k => ((repN rq k : Nat) : Int)) ↔ ¬ WholeD (JD r ts) ts C x) := hmx.trans (not_congr hiff)
                  clear kk hmx hiff hblk huq hb15 hge15 HPO HB2 HO2
                  generalize Lib.maxOf (tab C.length fun k => ((repN rq k : Nat) : Int)) = mx at *
                  go_wp2_with fail
                  refine HMX.out.mono ?_
                  rintro e W16 ⟨rfl, hW16⟩
                  subst hW16
                  clear HMX
                  by_cases g3 : 0 < mx
                  · have kk : decide ((0 : Int) < mx) = true := by simpa using g3
                    have hyes := Lib.hid (HYES.out (HMI.out.1 g3))
                    clear g3 HYES HNO HMI
                    have x0 := cell_h HX15.out 0 (v := .int .i64 x.kind) rfl
                    have x1 := cell_h HX15.out 1 (v := .string x.text) rfl
                    have hB9 := HB3.out.size
                    go_wp2_with (at_builtin; refine wpList_app_at rfl _ _ 41 rfl W12.heap.size 55 j0 (.agg #[.int .i64 0, .string ⟨#[]⟩]) 2 24 Tryz.underlying41 HJ0.out hj0 hj1 hj2 rfl (by decide) fId _ cs rfl HO3.out x #[.int .i64 x.kind, .string x.text] 55 rfl rfl (by simp [Value.oneCell']) (by omega) (by omega) hB9 ?_; intro v1 w7 o1 g1 b1 at1; have HO4 := Lib.hid o1; have HB4 := Lib.hid (HB3.out.trans b1); clear o1 g1 b1 at1)
                    go_roundw
                    case rel => exact ⟨i + 1, _, by omega, by go_num, HO4, HB4, hyes, by rw [List.length_append]; show cs.length + 1 ≤ _; omega⟩
                    case measure => simp [intOf]; omega
                  · have kk : decide ((0 : Int) < mx) = false := by simpa using g3
                    have hno := Lib.hid (HNO.out (Classical.not_not.1 (fun c => g3 (HMI.out.2 c))))
                    clear g3 HYES HNO HMI
                    go_wp2_with fail
                    go_roundw
                    case rel => exact ⟨i + 1, cs, by omega, by go_num, HO3, HB3, hno, by omega⟩
                    case measure => simp [intOf]; omega
            · have hie : i = ids.length := by omega
              subst hie
              rw [List.take_length] at HSP
              have HF : Hid (CutsPost r ts key w (.returned (.tuple #[.slice vA cs.length vc, .int .i64 0])) wr) := HPOST.out wr _ cs (HB12.out.trans (HB.out.mono HB12.out.size)) (HO.out.mono HB12.out.size) (by omega) HSP.out
              clear HB HO HSP
              go_wp2_with fail
              exact bodyPost_ret (by kernel_rfl) rfl HF.out
end Go.Proofs.YtbidhpgjmcedaaaGreatDoor
