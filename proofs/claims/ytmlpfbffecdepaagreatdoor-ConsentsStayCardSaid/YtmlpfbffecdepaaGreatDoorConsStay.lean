/- Policies and statements that are handed in stay; what is made of them is new memory: the law returns true. -/
import Derived.Test.YtmlpfbffecdepaaGreatDoorGQ
import Derived.Test.YtmlpfbffecdepaaGreatDoorGR
import Derived.Test.YtmlpfbffecdepaaGreatDoorGS
import Derived.Test.YtmlpfbffecdepaaGreatDoorGP
import Derived.Test.YtmlpfbffecdepaaGreatDoorGM
import Derived.Test.YtmlpfbffecdepaaGreatDoorGH
import Derived.Test.YtmlpfbffecdepaaGreatDoorGG
import Derived.Test.YtmlpfbffecdepaaGreatDoorGF
import Derived.Test.YtmlpfbffecdepaaGreatDoorGJ
namespace Go.Proofs.YtmlpfbffecdepaaGreatDoor
set_option linter.unusedVariables false
open Go.RowKit
/-- What the law knows of its world. -/
structure SS (w : World) (H : Frz) (A : Option Addr) (ps : List PurD) (A2 : Option Addr) (ss : List StD) (qb : Nat) (q : QueD) (W : World) : Prop where
  lw : Lw w w.heap.size 420 H W
  P : PolIn H A ps
  ML : MLen H
  T : Tab10 H
  R : Rw H A2 8 fSt ss
  B : H qb = some (.cells #[.int .i64 q.kind, .string q.text, .string q.purp, .string q.region, .int .i64 q.ch, .int .i64 q.at_] 34)
section
variable {w W W' : World} {H : Frz} {A A2 : Option Addr} {ps : List PurD} {ss : List StD} {qb : Nat} {q : QueD}
theorem SS.call (h : SS w H A ps A2 ss qb q W) (hb : Below W.heap.size W W') : SS w H A ps A2 ss qb q W' := ⟨h.lw.call hb, h.P, h.ML, h.T, h.R, h.B⟩
theorem SS.to (h : SS w H A ps A2 ss qb q W) {H' : Frz} (hl : H.Le H') (L : Lw w w.heap.size 420 H' W') : SS w H' A ps A2 ss qb q W' := ⟨L, h.P.le hl, h.ML.le hl, h.T.le hl, h.R.le hl, hl _ _ h.B⟩
theorem SS.lay {D : Type} {T k : Nat} {f : D → Nat → Value} {v : Value} {ds : List D} (h : SS w H A ps A2 ss qb q W) (hO : Orow W' W.heap.size T k f v ds) (hb : Below W.heap.size W W') : ∃ A9 cap9 H', v = .slice A9 ds.length cap9 ∧ ds.length ≤ cap9 ∧ H.Le H' ∧ SS w H' A ps A2 ss qb q W' ∧ Rw H' A9 k f ds ∧ ∀ g, g < W.heap.size → H' g = H g := by
  obtain ⟨A9, cap9, H', h1, h2, h3, h4, h5, h6⟩ := h.lw.keepRow (h.lw.call hb) hO
  exact ⟨A9, cap9, H', h1, h2, h3, h.to h3 h4, h5, h6⟩
theorem SS.spl {D : Type} {T k : Nat} {f : D → Nat → Value} {v : Value} {ds : List D} (h : SS w H A ps A2 ss qb q W) (hO : Orow W' W.heap.size T k f v ds) (hb : Below W.heap.size W W') : ∃ A9 cap9, v = .slice A9 ds.length cap9 ∧ Spl w w.heap.size 420 H A9 T k ds.length W' ∧ (ds.length : Int) ≤ 9223372036854775807 :=
  h.lw.spl (h.lw.call hb) hO
end
set_option maxHeartbeats 16000000 in
set_option maxRecDepth 100000 in
theorem consentsStay_walk (a0 : Option Addr) (len0 cap0 : Nat) (z0 : List Int) (w : World) (w0 : IsRow .i64 w a0 len0 cap0 z0) (hG : GlobT w) :
    Calls Tryz.prog 3 #[.slice a0 len0 cap0] w fun e w' => e = .returned (.bool true) ∧ Below w.heap.size w w' := by
  have L := Lw.whole w0
  have HG := Lib.hid hG
  clear hG w0
  go_enter Tryz.func3, Tryz.ntmps3
  go_wp2_with fail
  refine (L.rightPolicy (by omega)).mono ?_
  rintro e W1 ⟨A, cap, ps, H1, rfl, L1, le1, hP, hpe, hp0, hp3, hpc⟩
  have HL1 := Lib.hid L1
  have HP := Lib.hid hP
  have HPE := Lib.hid hpe
  have HPO := Lib.hid (HG.out.pool.le le1)
  have HML := Lib.hid (HG.out.mlen.le le1)
  have HT := Lib.hid (HG.out.tab.le le1)
  clear L L1 hP hpe le1 HG
  go_wp2_with fail
  refine (HL1.out.range 1 10 (by omega) (by omega) (by omega) (by omega)).mono ?_
  rintro e W2 ⟨m, rfl, m1, m2, L2, -, -⟩
  obtain ⟨m, rfl⟩ := Int.eq_ofNat_of_zero_le (show 0 ≤ m by omega)
  have HL2 := Lib.hid L2
  clear L2 HL1
  go_wp2_with fail
  refine (HL2.out.rightStatements (by omega) HPO.out A cap ps HP.out HPE.out hp0 (by omega) m (by omega)).mono ?_
  rintro e W3 ⟨A2, cap2, ss, H3, rfl, L3, le3, hR, hse, hsz, hsl, hsc⟩
  have HL3 := Lib.hid (L3.more (K' := 400) (by omega))
  have HP3 := Lib.hid (HP.out.le le3)
  have HPO3 := Lib.hid (HPO.out.le le3)
  have HML3 := Lib.hid (HML.out.le le3)
  have HT3 := Lib.hid (HT.out.le le3)
  have HR3 := Lib.hid hR
  have HSZ := Lib.hid hsz
  have HSE := Lib.hid hse
  have hs10 : ss.length ≤ 10 := by omega
  clear L3 le3 hR hse hsz hsl HL2 HP HPO HML HT
  go_wp2_with fail
  refine (HL3.out.question HPO3.out (by omega) A cap ps HP3.out hp0 (by omega)).mono ?_
  rintro e W4 ⟨q, rfl, hq, L4, -⟩
  obtain ⟨H5, le5, hb5, L5⟩ := L4.put (.cells #[.int .i64 q.kind, .string q.text, .string q.purp, .string q.region, .int .i64 q.ch, .int .i64 q.at_] 34)
  have HS5 : Hid (SS w H5 A ps A2 ss W4.heap.size q _) := ⟨L5, HP3.out.le le5, HML3.out.le le5, HT3.out.le le5, HR3.out.le le5, hb5⟩
  have HQ := Lib.hid hq
  have HE3 : Hid (sayErr idErr ps [] = 0) := say_sub HSE.out (List.nil_sublist _)
  have HZ3 : Hid (SzSt []) := fun s hs => by cases hs
  clear hq le5 hb5 L5 L4 HL3 HP3 HPO3 HML3 HT3 HR3
  go_upto_region 4 with (fail)
  generalize W4.alloc (.cells #[.int .i64 q.kind, .string q.text, .string q.purp, .string q.region, .int .i64 q.ch, .int .i64 q.at_] 34) = W5 at *
  generalize W4.heap.size = qb at *
  go_wp2_with fail
  refine (clone_St H5 fSt ss (fun d _ m => fSt_one d m) A2 cap2 W5 HS5.out.lw.fin HS5.out.R (by omega)).mono ?_
  rintro e W6 ⟨⟨v, rfl, hO⟩, hb⟩
  obtain ⟨Ar6, cr6, H6, hvx, hcr6, le6, hss, hrow, -⟩ := HS5.out.lay hO hb
  subst hvx
  have HS6 := Lib.hid hss
  have HRow6 := Lib.hid hrow
  clear hss hrow hO hb HS5
  clear le6
  go_wp2_with fail
  refine (textPolicy_any H6 HS6.out.T A cap ps W6 HS6.out.lw.fin HS6.out.P hp3 HPE.out).mono ?_
  rintro e W7 ⟨rfl, hb⟩
  have HS7 := Lib.hid (HS6.out.call hb)
  clear hb HS6
  generalize hTX : (⟨(polT ps).toArray⟩ : ByteArray) = txt
  have HTX := Lib.hid hTX
  clear hTX
  go_wp2_with fail
  refine (merge_any H6 HS7.out.ML A cap ps A2 cap2 ss A2 cap2 ss W7 HS7.out.lw.fin HS7.out.P (by omega) HS7.out.R HS7.out.R (by omega) HSZ.out HSZ.out HSE.out HSE.out).mono ?_
  rintro e W8 ⟨v1, m1, rfl, hO1, -, hb1⟩
  obtain ⟨A1, c1, hv1, hsp1, hle1⟩ := HS7.out.spl hO1 hb1
  subst hv1
  have HSP0 := Lib.hid hsp1
  have HLE1 := Lib.hid hle1
  have HS8 := Lib.hid (HS7.out.call hb1)
  clear hO1 hb1 hsp1 hle1 HS7
  go_wp2_with fail
  refine (merge_any H6 HS8.out.ML A cap ps A2 cap2 ss A2 cap2 ss W8 HS8.out.lw.fin HS8.out.P (by omega) HS8.out.R HS8.out.R (by omega) HSZ.out HSZ.out HSE.out HSE.out).mono ?_
  rintro e W9 ⟨v2, m2, rfl, hO2, hM2, hb2⟩
  have HM2 := Lib.hid hM2
  obtain ⟨Ar9, cr9, H9, hvx, hcr9, le9, hss, hrow, hsame⟩ := HS8.out.lay hO2 hb2
  subst hvx
  have HSP1 := Lib.hid (HSP0.out.to hss.lw hb2 hsame)
  have HS9 := Lib.hid hss
  have HRow9 := Lib.hid hrow
  have HRow6b := Lib.hid (HRow6.out.le le9)
  clear hO2 hb2 hM2 hss hrow hsame le9 HSP0 HS8 HRow6
  go_wp2_with fail
  go_loopw [14, 63] (fun _ t wr => ∃ i : Nat, i ≤ m1.length ∧ t = .int .i64 i ∧ Hid (Spl w w.heap.size 420 H9 A1 38 8 m1.length wr)) (fun _ t _ => m1.length - (intOf t).toNat)
  case atStart => exact ⟨0, by omega, rfl, HSP1⟩
  case round =>
    obtain ⟨i, hi, rfl, hspl⟩ := hrel
    by_cases hlt : i < m1.length
    · obtain ⟨g, hgA, hsp⟩ := hspl.out.at_ (by omega)
      subst hgA
      obtain ⟨x0, c0⟩ := hsp.blk.cell (i := i * 8) (by omega)
      have f0 := hsp.blk.frozen (i * 8)
      obtain ⟨x1, c1⟩ := hsp.blk.cell (i := i * 8 + 1) (by omega)
      have f1 := hsp.blk.frozen (i * 8 + 1)
      obtain ⟨x2, c2⟩ := hsp.blk.cell (i := i * 8 + 2) (by omega)
      have f2 := hsp.blk.frozen (i * 8 + 2)
      obtain ⟨x3, c3⟩ := hsp.blk.cell (i := i * 8 + 3) (by omega)
      have f3 := hsp.blk.frozen (i * 8 + 3)
      obtain ⟨x4, c4⟩ := hsp.blk.cell (i := i * 8 + 4) (by omega)
      have f4 := hsp.blk.frozen (i * 8 + 4)
      obtain ⟨x5, c5⟩ := hsp.blk.cell (i := i * 8 + 5) (by omega)
      have f5 := hsp.blk.frozen (i * 8 + 5)
      obtain ⟨x6, c6⟩ := hsp.blk.cell (i := i * 8 + 6) (by omega)
      have f6 := hsp.blk.frozen (i * 8 + 6)
      obtain ⟨x7, c7⟩ := hsp.blk.cell (i := i * 8 + 7) (by omega)
      have f7 := hsp.blk.frozen (i * 8 + 7)
      have HSP := Lib.hid hsp
      have hspl0 := hspl
      clear hsp HSP1 hspl
      have hlt2 : (i : Int) < m1.length := by omega
      have hi64 : (i : Int) ≤ 9223372036854775806 := by have := HLE1.out; omega
      go_wp2_with fail
      go_roundw
      case rel => exact ⟨i + 1, by omega, by go_num, Lib.hid (hspl0.out.fin (Spo.set (Spo.set (Spo.set (Spo.set (Spo.set (Spo.set (Spo.set (Spo.set HSP.out _ _) _ _) _ _) _ _) _ _) _ _) _ _) _ _))⟩
      case measure => simp [intOf]; omega
    · have HS10 : Hid (SS w H9 A ps A2 ss qb q wr) := HS9.out.to (fun _ _ h => h) hspl.out.lw
      clear hspl HSP1 HS9
      go_wp2_with fail
      refine (merge_any H9 HS10.out.ML A cap ps A2 cap2 ss none 0 [] wr HS10.out.lw.fin HS10.out.P (by omega) HS10.out.R Rw.nil (by simp; omega) HSZ.out HZ3.out HSE.out HE3.out).mono ?_
      rintro e W11 ⟨v3, m3, rfl, hO3, hM3, hb3⟩
      have e3 := merge_twice HM2.out hM3
      subst e3
      obtain ⟨Ar12, cr12, H12, hvx, hcr12, le12, hss, hrow, -⟩ := HS10.out.lay hO3 hb3
      subst hvx
      have HS12 := Lib.hid hss
      have HRow12 := Lib.hid hrow
      have HRow9b := Lib.hid (HRow9.out.le le12)
      have HRow6c := Lib.hid (HRow6b.out.le le12)
      have HML2 : Hid (m2.length ≤ 1000000) := by have := HM2.out.len; rw [List.length_append] at this; show _ ≤ _; omega
      clear hO3 hb3 hM3 hss hrow le12 HRow9 HRow6b HS10 HM2
      have hq5 := HS12.out.lw.fin _ _ HS12.out.B
      have q0 : W11.cell? ⟨qb, 0, none⟩ = some (.int .i64 q.kind) := cell_h (hq5) 0 rfl
      have q1 : W11.cell? ⟨qb, 1, none⟩ = some (.string q.text) := cell_h (hq5) 1 rfl
      have q2 : W11.cell? ⟨qb, 2, none⟩ = some (.string q.purp) := cell_h (hq5) 2 rfl
      have q3 : W11.cell? ⟨qb, 3, none⟩ = some (.string q.region) := cell_h (hq5) 3 rfl
      have q4 : W11.cell? ⟨qb, 4, none⟩ = some (.int .i64 q.ch) := cell_h (hq5) 4 rfl
      have q5 : W11.cell? ⟨qb, 5, none⟩ = some (.int .i64 q.at_) := cell_h (hq5) 5 rfl
      clear hq5
      go_wp2_with fail
      clear q0 q1 q2 q3 q4 q5
      refine (askYes_any H12 HS12.out.ML A cap ps A2 cap2 ss q.kind q.text q.purp q.region q.ch q.at_ W11 HS12.out.lw.fin HS12.out.P (by omega) HS12.out.R (by omega) HSZ.out (by have := HQ.out.text; omega) (by have := HQ.out.region; omega)).mono ?_
      rintro e W13 ⟨vx, rfl, hO, hb⟩
      generalize askYes ps ss q.kind q.text q.purp q.region q.ch q.at_ = ra at *
      obtain ⟨er, xs⟩ := ra
      dsimp only at hO
      obtain ⟨A2s, c2s, hv, hsp, hle⟩ := HS12.out.spl hO hb
      subst hv
      have HSP2 := Lib.hid hsp
      have HLE2 := Lib.hid hle
      have HS13 := Lib.hid (HS12.out.call hb)
      clear hO hb hsp hle HS12
      go_wp2_with fail
      go_loopw [19, 95] (fun _ t wr => ∃ i : Nat, i ≤ xs.length ∧ t = .int .i64 i ∧ Hid (Spl w w.heap.size 420 H12 A2s 38 8 xs.length wr)) (fun _ t _ => xs.length - (intOf t).toNat)
      case atStart => exact ⟨0, by omega, rfl, HSP2⟩
      case round =>
        obtain ⟨i, hi, rfl, hspl⟩ := hrel
        by_cases hlt : i < xs.length
        · obtain ⟨g, hgA, hsp⟩ := hspl.out.at_ (by omega)
          subst hgA
          obtain ⟨x0, c0⟩ := hsp.blk.cell (i := i * 8) (by omega)
          have f0 := hsp.blk.frozen (i * 8)
          obtain ⟨x1, c1⟩ := hsp.blk.cell (i := i * 8 + 1) (by omega)
          have f1 := hsp.blk.frozen (i * 8 + 1)
          obtain ⟨x2, c2⟩ := hsp.blk.cell (i := i * 8 + 2) (by omega)
          have f2 := hsp.blk.frozen (i * 8 + 2)
          obtain ⟨x3, c3⟩ := hsp.blk.cell (i := i * 8 + 3) (by omega)
          have f3 := hsp.blk.frozen (i * 8 + 3)
          obtain ⟨x4, c4⟩ := hsp.blk.cell (i := i * 8 + 4) (by omega)
          have f4 := hsp.blk.frozen (i * 8 + 4)
          obtain ⟨x5, c5⟩ := hsp.blk.cell (i := i * 8 + 5) (by omega)
          have f5 := hsp.blk.frozen (i * 8 + 5)
          obtain ⟨x6, c6⟩ := hsp.blk.cell (i := i * 8 + 6) (by omega)
          have f6 := hsp.blk.frozen (i * 8 + 6)
          obtain ⟨x7, c7⟩ := hsp.blk.cell (i := i * 8 + 7) (by omega)
          have f7 := hsp.blk.frozen (i * 8 + 7)
          have HSP := Lib.hid hsp
          have hspl0 := hspl
          clear hsp HSP2 hspl
          have hlt2 : (i : Int) < xs.length := by omega
          have hi64 : (i : Int) ≤ 9223372036854775806 := by have := HLE2.out; omega
          go_wp2_with fail
          go_roundw
          case rel => exact ⟨i + 1, by omega, by go_num, Lib.hid (hspl0.out.fin (Spo.set (Spo.set (Spo.set (Spo.set (Spo.set (Spo.set (Spo.set (Spo.set HSP.out _ _) _ _) _ _) _ _) _ _) _ _) _ _) _ _))⟩
          case measure => simp [intOf]; omega
        · have HS14 : Hid (SS w H12 A ps A2 ss qb q wr) := HS13.out.to (fun _ _ h => h) hspl.out.lw
          clear hspl HSP2 HS13
          have hq5 := HS14.out.lw.fin _ _ HS14.out.B
          have q0 : wr.cell? ⟨qb, 0, none⟩ = some (.int .i64 q.kind) := cell_h (hq5) 0 rfl
          have q1 : wr.cell? ⟨qb, 1, none⟩ = some (.string q.text) := cell_h (hq5) 1 rfl
          have q2 : wr.cell? ⟨qb, 2, none⟩ = some (.string q.purp) := cell_h (hq5) 2 rfl
          have q3 : wr.cell? ⟨qb, 3, none⟩ = some (.string q.region) := cell_h (hq5) 3 rfl
          have q4 : wr.cell? ⟨qb, 4, none⟩ = some (.int .i64 q.ch) := cell_h (hq5) 4 rfl
          have q5 : wr.cell? ⟨qb, 5, none⟩ = some (.int .i64 q.at_) := cell_h (hq5) 5 rfl
          clear hq5
          go_wp2_with fail
          clear q0 q1 q2 q3 q4 q5
          refine (proof_any H12 HS14.out.ML A cap ps A2 cap2 ss q.kind q.text q.purp q.region q.ch q.at_ wr HS14.out.lw.fin HS14.out.P (by omega) HS14.out.R (by omega) HSZ.out (by have := HQ.out.text; omega) (by have := HQ.out.region; omega)).mono ?_
          rintro e W15 ⟨vx, rfl, hO, hb⟩
          generalize proofA ps ss q.kind q.text q.purp q.region q.ch q.at_ = ys at *
          obtain ⟨A3s, c3s, hv, hsp, hle⟩ := HS14.out.spl hO hb
          subst hv
          have HSP3 := Lib.hid hsp
          have HLE3 := Lib.hid hle
          have HS15 := Lib.hid (HS14.out.call hb)
          clear hO hb hsp hle HS14
          go_wp2_with fail
          go_loopw [22, 121] (fun _ t wr => ∃ i : Nat, i ≤ ys.length ∧ t = .int .i64 i ∧ Hid (Spl w w.heap.size 420 H12 A3s 3 1 ys.length wr)) (fun _ t _ => ys.length - (intOf t).toNat)
          case atStart => exact ⟨0, by omega, rfl, HSP3⟩
          case round =>
            obtain ⟨i, hi, rfl, hspl⟩ := hrel
            by_cases hlt : i < ys.length
            · obtain ⟨g, hgA, hsp⟩ := hspl.out.at_ (by omega)
              subst hgA
              obtain ⟨x0, c0⟩ := hsp.blk.cell (i := i) (by omega)
              have f0 := hsp.blk.frozen (i)
              have HSP := Lib.hid hsp
              have hspl0 := hspl
              clear hsp HSP3 hspl
              have hlt2 : (i : Int) < ys.length := by omega
              have hi64 : (i : Int) ≤ 9223372036854775806 := by have := HLE3.out; omega
              go_wp2_with fail
              go_roundw
              case rel => exact ⟨i + 1, by omega, by go_num, Lib.hid (hspl0.out.fin (Spo.set HSP.out _ _))⟩
              case measure => simp [intOf]; omega
            · have HS16 : Hid (SS w H12 A ps A2 ss qb q wr) := HS15.out.to (fun _ _ h => h) hspl.out.lw
              clear hspl HSP3 HS15
              have hq5 := HS16.out.lw.fin _ _ HS16.out.B
              have q0 : wr.cell? ⟨qb, 0, none⟩ = some (.int .i64 q.kind) := cell_h (hq5) 0 rfl
              have q1 : wr.cell? ⟨qb, 1, none⟩ = some (.string q.text) := cell_h (hq5) 1 rfl
              clear hq5
              obtain ⟨H17, le17, hb17, L17⟩ := HS16.out.lw.put (.cells #[.int .i64 q.kind, .string q.text, .int .i64 q.kind, .string q.text] 32)
              have HS17 := Lib.hid (HS16.out.to le17 L17)
              have HIDS : Hid (Rw H17 (some ⟨wr.heap.size, 0, none⟩) 2 fId [⟨q.kind, q.text⟩, ⟨q.kind, q.text⟩]) := Rw_blk (T := 32) hb17
              have HRow12b := Lib.hid (HRow12.out.le le17)
              have HRow9c := Lib.hid (HRow9b.out.le le17)
              have HRow6d := Lib.hid (HRow6c.out.le le17)
              clear le17 hb17 L17 HRow12 HRow9b HRow6c HS16
              go_upto_region 29 with (fail)
              clear q0 q1
              generalize wr.alloc (.cells #[.int .i64 q.kind, .string q.text, .int .i64 q.kind, .string q.text] 32) = W17 at *
              generalize wr.heap.size = ib at *
              have hq5 := HS17.out.lw.fin _ _ HS17.out.B
              have q0 : W17.cell? ⟨qb, 0, none⟩ = some (.int .i64 q.kind) := cell_h (hq5) 0 rfl
              have q1 : W17.cell? ⟨qb, 1, none⟩ = some (.string q.text) := cell_h (hq5) 1 rfl
              have q2 : W17.cell? ⟨qb, 2, none⟩ = some (.string q.purp) := cell_h (hq5) 2 rfl
              have q3 : W17.cell? ⟨qb, 3, none⟩ = some (.string q.region) := cell_h (hq5) 3 rfl
              have q4 : W17.cell? ⟨qb, 4, none⟩ = some (.int .i64 q.ch) := cell_h (hq5) 4 rfl
              have q5 : W17.cell? ⟨qb, 5, none⟩ = some (.int .i64 q.at_) := cell_h (hq5) 5 rfl
              clear hq5
              go_wp2_with fail
              clear q0 q1 q2 q3 q4 q5
              refine (audience_any H17 HS17.out.ML A cap ps A2 cap2 ss (some ⟨ib, 0, none⟩) 2 [⟨q.kind, q.text⟩, ⟨q.kind, q.text⟩] q.purp q.region q.ch q.at_ W17 HS17.out.lw.fin HS17.out.P (by omega) HS17.out.R (by omega) HSZ.out HIDS.out (by simp) (by
                have := HQ.out.text
                intro x hx
                simp at hx
                subst hx
                show q.text.size ≤ _
                omega) (by have := HQ.out.region; omega)).mono ?_
              rintro e W18 ⟨⟨v9, rfl⟩, hb⟩
              have HS18 := Lib.hid (HS17.out.call hb)
              clear hb HS17
              go_wp2_with fail
              refine (textPolicy_any H17 HS18.out.T A cap ps W18 HS18.out.lw.fin HS18.out.P hp3 HPE.out).mono ?_
              rintro e W19 ⟨rfl, hb⟩
              have HS19 := Lib.hid (HS18.out.call hb)
              clear hb HS18
              rw [HTX.out]
              have k1 : (txt.toList == txt.toList) = true := by simp
              go_wp2_with fail
              refine (equal_St H17 A2 cap2 Ar6 cr6 ss W19 HS19.out.lw.fin HS19.out.R HRow6d.out (by omega)).mono ?_
              rintro e W20 ⟨rfl, hb⟩
              have HS20 := Lib.hid (HS19.out.call hb)
              clear hb HS19 k1
              go_wp2_with fail
              refine (equal_St H17 Ar9 cr9 Ar12 cr12 m2 W20 HS20.out.lw.fin HRow9c.out HRow12b.out HML2.out).mono ?_
              rintro e W21 ⟨rfl, hb⟩
              have HS21 := Lib.hid (HS20.out.call hb)
              clear hb HS20
              have hq5 := HS21.out.lw.fin _ _ HS21.out.B
              have q0 : W21.cell? ⟨qb, 0, none⟩ = some (.int .i64 q.kind) := cell_h hq5 0 rfl
              have q1 : W21.cell? ⟨qb, 1, none⟩ = some (.string q.text) := cell_h hq5 1 rfl
              clear hq5
              obtain ⟨H22, le22, hb22, L22⟩ := HS21.out.lw.put (.cells #[.int .i64 q.kind, .string q.text, .int .i64 q.kind, .string q.text] 32)
              have HS22 := Lib.hid (HS21.out.to le22 L22)
              have HIDS2 : Hid (Rw H22 (some ⟨W21.heap.size, 0, none⟩) 2 fId [⟨q.kind, q.text⟩, ⟨q.kind, q.text⟩]) := Rw_blk (T := 32) hb22
              have HIDS1 := Lib.hid (HIDS.out.le le22)
              clear le22 hb22 L22 HS21 HIDS
              go_wp2_with fail
              refine (equal_Id H22 (some ⟨ib, 0, none⟩) 2 (some ⟨W21.heap.size, 0, none⟩) 2 [⟨q.kind, q.text⟩, ⟨q.kind, q.text⟩] _ HS22.out.lw.fin HIDS1.out HIDS2.out (by simp)).mono ?_
              rintro e W23 ⟨rfl, hb⟩
              have HS23 := Lib.hid (HS22.out.call hb)
              clear hb HS22 q0 q1
              go_wp2_with fail
              refine (consents_any H22 HS23.out.ML W23 HS23.out.lw.fin).mono ?_
              rintro e W24 ⟨rfl, hb⟩
              have HF := Lib.hid (HS23.out.call hb).lw.bel
              clear hb HS23
              go_wp2_with fail
              go_ret
              exact ⟨rfl, HF.out⟩
end Go.Proofs.YtmlpfbffecdepaaGreatDoor
