/- Texts of this claim, put together: AskY, ConcW, ConcV. -/
import Derived.Test.YtmlpfbffecdepaaGreatDoorGO
import Derived.Test.YtmlpfbffecdepaaGreatDoorGA
/- consent.Ask where a permission is wanted. -/
namespace Go.Proofs.YtmlpfbffecdepaaGreatDoor
set_option linter.unusedVariables false
open Go.RowKit
set_option maxHeartbeats 16000000 in
set_option maxRecDepth 100000 in
theorem askYes_any (H : Frz) (hM : MLen H) (A : Option Addr) (cap : Nat) (ps : List PurD) (A2 : Option Addr) (cap2 : Nat) (ss : List StD) (kind : Int) (text purp region : ByteArray) (ch at_ : Int) (w : World) (hH : H.In w)
    (hP : PolIn H A ps) (hl : ps.length ≤ 1000000) (hR : Rw H A2 8 fSt ss) (hl2 : ss.length < 18) (hsz : SzSt ss) (htz : text.size ≤ 1000000) (hrz : region.size ≤ 1000000) :
    Calls Tryz.prog 11 #[.slice A ps.length cap, .slice A2 ss.length cap2, .agg #[.int .i64 kind, .string text], .string purp, .string region, .int .i64 ch, .int .i64 at_, .bool true] w (WishPost w (askYes ps ss kind text purp region ch at_)) := by
  obtain ⟨i0, hi0, hz0, hz1, hz2⟩ := info_parts infoSt
  have HM0 := Lib.hid (PS.start hH ⟨kind, text⟩ #[.slice A ps.length cap, .string purp, .string region, .int .i64 ch, .int .i64 at_])
  have HM := Lib.hid hM
  have HP := Lib.hid hP
  have HR := Lib.hid hR
  have HSZ := Lib.hid hsz
  have HER := Lib.hid (fun h0 : allErr ps ss [⟨kind, text⟩] 1 purp region ch at_ = 0 => all_right h0)
  have HPA1 : Hid (allErr ps ss [⟨kind, text⟩] 1 purp region ch at_ ≠ 0 → askYes ps ss kind text purp region ch at_ = (allErr ps ss [⟨kind, text⟩] 1 purp region ch at_, [])) := fun h => if_pos h
  have HPA2 : Hid (allErr ps ss [⟨kind, text⟩] 1 purp region ch at_ = 0 → (askF ps ss kind text purp region ch at_).may = true → askYes ps ss kind text purp region ch at_ = (0, [])) := fun h h' => (if_neg (by simpa using h)).trans (if_pos h')
  have HPA3 : Hid (allErr ps ss [⟨kind, text⟩] 1 purp region ch at_ = 0 → (askF ps ss kind text purp region ch at_).may = false → askYes ps ss kind text purp region ch at_ = match termF ps purp region ch with
    | none => (16, [])
    | some t =>
      if (askF ps (ss ++ outsF (lastNo ss) kind text purp region ch at_ (wantF t purp (saidF ss kind text ch) at_)) kind text purp region ch at_).may = false ∧ (askF ps (ss ++ outsF (lastNo ss) kind text purp region ch at_ (wantF t purp (saidF ss kind text ch) at_)) kind text purp region ch at_).why ≠ 8 then (13, []) else
      askFin ss (outsF (lastNo ss) kind text purp region ch at_ (wantF t purp (saidF ss kind text ch) at_)) (lastNo ss)) := fun h h' => (if_neg (by simpa using h)).trans (if_neg (by rw [h']; decide))
  clear hH hM hP hR hsz
  go_enter Tryz.func11, Tryz.ntmps11
  go_upto_region 2 with (fail)
  generalize (w.alloc (.cells #[.int .i64 kind, .string text] 32)).alloc (.cells #[.slice A ps.length cap, .string purp, .string region, .int .i64 ch, .int .i64 at_] 85) = W0 at *
  have hk1 := HM0.out.h1
  have hk3 := HM0.out.h3
  have i0_ : W0.cell? ⟨w.heap.size, 0, none⟩ = some (.int .i64 kind) := cell_h hk1 0 rfl
  have i1_ : W0.cell? ⟨w.heap.size, 1, none⟩ = some (.string text) := cell_h hk1 1 rfl
  have q0 : W0.cell? ⟨w.heap.size + 1, 0, none⟩ = some (.slice A ps.length cap) := cell_h (hk3) 0 rfl
  have q1 : W0.cell? ⟨w.heap.size + 1, 1, none⟩ = some (.string purp) := cell_h (hk3) 1 rfl
  have q2 : W0.cell? ⟨w.heap.size + 1, 2, none⟩ = some (.string region) := cell_h (hk3) 2 rfl
  have q3 : W0.cell? ⟨w.heap.size + 1, 3, none⟩ = some (.int .i64 ch) := cell_h (hk3) 3 rfl
  have q4 : W0.cell? ⟨w.heap.size + 1, 4, none⟩ = some (.int .i64 at_) := cell_h (hk3) 4 rfl
  obtain ⟨H1, hle, hblk, hin1⟩ := HM0.out.inn.put (.cells #[.int .i64 kind, .string text] 32)
  have hR1 : Rw H1 (some ⟨W0.heap.size, 0, none⟩) 2 fId [⟨kind, text⟩] := Rw_blk hblk
  have HCA := Lib.hid (checkAll_any H1 (HM.out.le hle) A cap ps A2 cap2 ss (some ⟨W0.heap.size, 0, none⟩) 1 [⟨kind, text⟩] 1 purp region ch at_ _ hin1 (HP.out.le hle) hl (HR.out.le hle) (by omega) HSZ.out hR1 (by simp) (fun x hx => by simp at hx; rw [hx]; exact htz) hrz)
  have HM1 := Lib.hid (HM0.out.below (new1 (.cells #[.int .i64 kind, .string text] 32)))
  clear hk1 hk3 hle hblk hin1 hR1 HM0
  go_wp2_with fail
  refine HCA.out.mono ?_
  rintro e w1 ⟨rfl, hb⟩
  have HM2 := Lib.hid (HM1.out.below hb)
  clear i0_ i1_ q0 q1 q2 q3 q4 HCA hb HM1
  generalize askYes ps ss kind text purp region ch at_ = res at *
  generalize allErr ps ss [⟨kind, text⟩] 1 purp region ch at_ = ae at *
  by_cases g1 : ae = 0
  · obtain ⟨r1, r2, r3⟩ := HER.out g1
    have HV2 := Lib.hid (HPA2.out g1)
    have HV3 := Lib.hid (HPA3.out g1)
    subst g1
    have hpol := say_pol r1
    have hps := pol_right hpol
    have hat := que_at r3
    have hno := lastNo_bd r1
    have HBD := Lib.hid (said_bd (say_bd r1) kind text ch)
    have HSBD := Lib.hid (say_bd r1)
    have hsl := said_len ss kind text ch
    have HTB := Lib.hid (term_tb hpol (purp := purp) (region := region) (ch := ch))
    have HASKG := Lib.hid (fun H' (le : H.Le H') (A' : Option Addr) (cap' : Nat) (ss' : List StD) (hR' : Rw H' A' 8 fSt ss') (hl' : ss'.length < 20) W (hW : H'.In W) => ask_any H' A cap ps purp region ch at_ A' cap' ss' kind text W hW (HP.out.le le) hps.1 (fun p hp => (tes_right (hps.2 p hp)).1) hl hR' hl')
    have HASK := Lib.hid (HASKG.out H (Frz.Le.refl _) A2 cap2 ss HR.out (by omega) w1 HM2.out.inn)
    have HSA := Lib.hid (saidF_at ss kind text ch)
    have HAF : Hid (askF ps ss kind text purp region ch at_ = answerF (termF ps purp region ch) purp (saidF ss kind text ch) at_) := rfl
    have HAFG : Hid (∀ ss', askF ps ss' kind text purp region ch at_ = answerF (termF ps purp region ch) purp (saidF ss' kind text ch) at_) := fun _ => rfl
    have i0_ : w1.cell? ⟨w.heap.size, 0, none⟩ = some (.int .i64 kind) := cell_h HM2.out.h1 0 rfl
    have i1_ : w1.cell? ⟨w.heap.size, 1, none⟩ = some (.string text) := cell_h HM2.out.h1 1 rfl
    have q0 : w1.cell? ⟨w.heap.size + 1, 0, none⟩ = some (.slice A ps.length cap) := cell_h (HM2.out.h3) 0 rfl
    have q1 : w1.cell? ⟨w.heap.size + 1, 1, none⟩ = some (.string purp) := cell_h (HM2.out.h3) 1 rfl
    have q2 : w1.cell? ⟨w.heap.size + 1, 2, none⟩ = some (.string region) := cell_h (HM2.out.h3) 2 rfl
    have q3 : w1.cell? ⟨w.heap.size + 1, 3, none⟩ = some (.int .i64 ch) := cell_h (HM2.out.h3) 3 rfl
    have q4 : w1.cell? ⟨w.heap.size + 1, 4, none⟩ = some (.int .i64 at_) := cell_h (HM2.out.h3) 4 rfl
    clear r1 r2 r3 hpol hps HER HPA1 HPA2 HPA3
    generalize hsd : saidF ss kind text ch = sd at *
    clear hsd
    generalize termF ps purp region ch = o at *
    go_wp2_with fail
    refine HASK.out.mono ?_
    rintro e w2 ⟨v, rfl, hO, hb⟩
    obtain ⟨A4, cap4, H2, hv, hle4, p1, p2, hR4, p3, -⟩ := hO.freeze H
    subst hv
    have hin2 := p1 (HM2.out.inn.below hb)
    have hle2 := p2 (fun g hg => HM2.out.inn.none_ (hO.lt hg).1)
    have hM2 := HM2.out.below hb
    have HM2' : Hid (PS H2 w ⟨kind, text⟩ #[.slice A ps.length cap, .string purp, .string region, .int .i64 ch, .int .i64 at_] w2) := ⟨hin2, hM2.bel, hM2.h1, hM2.h3⟩
    clear i0_ i1_ q0 q1 q2 q3 q4 HASK
    obtain ⟨t, ht, -⟩ := terV_eq o
    have HT : Hid (o.getD zeroTe = t) := ht.symm
    have HTT : Hid (∀ t', o = some t' → t' = t) := fun t' h => by rw [ht, h]; rfl
    rw [HT.out]
    clear ht
    obtain ⟨H3, le3, hblk3, hin3⟩ := hin2.put (.cells #[.string t.region, .int .i64 t.ch, .bool t.free, .int .i64 t.days, .int .i64 t.wait, .bool o.isSome, .string purp, .slice A4 sd.length cap4] 89)
    have hM3 := hM2.below (new1 (.cells #[.string t.region, .int .i64 t.ch, .bool t.free, .int .i64 t.days, .int .i64 t.wait, .bool o.isSome, .string purp, .slice A4 sd.length cap4] 89))
    have HM3 : Hid (PS H3 w ⟨kind, text⟩ #[.slice A ps.length cap, .string purp, .string region, .int .i64 ch, .int .i64 at_] (w2.alloc (.cells #[.string t.region, .int .i64 t.ch, .bool t.free, .int .i64 t.days, .int .i64 t.wait, .bool o.isSome, .string purp, .slice A4 sd.length cap4] 89))) := ⟨hin3, hM3.bel, hM3.h1, hM3.h3⟩
    have HLE3 := Lib.hid (hle2.trans le3)
    have HR3 := Lib.hid (hR4.le le3)
    have HBK3 := Lib.hid hblk3
    have HAN := Lib.hid (fun W (hW : H3.In W) => answer_any H3 A4 cap4 sd o purp at_ W hW (hR4.le le3) HSA.out (by omega) hle4 HBD.out HTB.out (by omega) (by omega))
    rw [HT.out] at HAN
    clear hO p1 p2 p3 hR4 hin2 hb le3 hin3 hblk3 HM2 HM2' hM2 hM3 hle2
    go_upto_region 6 with (fail)
    generalize w2.alloc (.cells #[.string t.region, .int .i64 t.ch, .bool t.free, .int .i64 t.days, .int .i64 t.wait, .bool o.isSome, .string purp, .slice A4 sd.length cap4] 89) = W3 at *
    generalize w2.heap.size = qb at *
    have a0 : W3.cell? ⟨qb, 0, none⟩ = some (.string t.region) := cell_h (HM3.out.inn _ _ HBK3.out) 0 rfl
    have a1 : W3.cell? ⟨qb, 1, none⟩ = some (.int .i64 t.ch) := cell_h (HM3.out.inn _ _ HBK3.out) 1 rfl
    have a2 : W3.cell? ⟨qb, 2, none⟩ = some (.bool t.free) := cell_h (HM3.out.inn _ _ HBK3.out) 2 rfl
    have a3 : W3.cell? ⟨qb, 3, none⟩ = some (.int .i64 t.days) := cell_h (HM3.out.inn _ _ HBK3.out) 3 rfl
    have a4 : W3.cell? ⟨qb, 4, none⟩ = some (.int .i64 t.wait) := cell_h (HM3.out.inn _ _ HBK3.out) 4 rfl
    have a5 : W3.cell? ⟨qb, 5, none⟩ = some (.bool o.isSome) := cell_h (HM3.out.inn _ _ HBK3.out) 5 rfl
    have a6 : W3.cell? ⟨qb, 6, none⟩ = some (.string purp) := cell_h (HM3.out.inn _ _ HBK3.out) 6 rfl
    have a7 : W3.cell? ⟨qb, 7, none⟩ = some (.slice A4 sd.length cap4) := cell_h (HM3.out.inn _ _ HBK3.out) 7 rfl
    go_wp2_with fail
    refine (HAN.out _ HM3.out.inn).mono ?_
    rintro e w4 ⟨rfl, hb⟩
    rw [← HAF.out]
    clear a0 a1 a2 a3 a4 a5 a6 a7
    generalize askF ps ss kind text purp region ch at_ = ans at HV2 HV3 HAF ⊢
    obtain ⟨am, ay, an⟩ := ans
    rw [show ansV ⟨am, ay, an⟩ = .agg #[.bool am, .int .i64 ay, .int .i64 an] from rfl]
    have hf0 : ∀ W, (Instr.field 92 (.agg #[.bool am, .int .i64 ay, .int .i64 an]) 0).run Tryz.prog W = .ok (.bool am) W := fun W => by kernel_rfl
    have HM4 := Lib.hid (HM3.out.below hb)
    clear hb HM3
    cases am with
    | true =>
      have HV := Lib.hid (HV2.out rfl)
      clear HV2 HV3
      go_wp2_with fail
      go_ret2
      exact WishPost.nil HV.out HM4.out.bel
    | false =>
      have HVX := Lib.hid (HV3.out rfl)
      clear HV2 HV3
      have HM4 := Lib.hid (HM4.out.below (new1 (.cells #[.int .i64 3] 3)))
      go_upto_region 9 with (fail)
      generalize w4.alloc (.cells #[.int .i64 3] 3) = w4b at *
      cases o with
      | none =>
        have a5 : w4b.cell? ⟨qb, 5, none⟩ = some (.bool false) := cell_h (HM4.out.inn _ _ HBK3.out) 5 rfl
        go_wp2_with fail
        go_ret2
        exact WishPost.nil HVX.out HM4.out.bel
      | some t' =>
        obtain rfl := HTT.out t' rfl
        have b0 : w4b.cell? ⟨qb, 0, none⟩ = some (.string t'.region) := cell_h (HM4.out.inn _ _ HBK3.out) 0 rfl
        have b1 : w4b.cell? ⟨qb, 1, none⟩ = some (.int .i64 t'.ch) := cell_h (HM4.out.inn _ _ HBK3.out) 1 rfl
        have b2 : w4b.cell? ⟨qb, 2, none⟩ = some (.bool t'.free) := cell_h (HM4.out.inn _ _ HBK3.out) 2 rfl
        have b3 : w4b.cell? ⟨qb, 3, none⟩ = some (.int .i64 t'.days) := cell_h (HM4.out.inn _ _ HBK3.out) 3 rfl
        have b4 : w4b.cell? ⟨qb, 4, none⟩ = some (.int .i64 t'.wait) := cell_h (HM4.out.inn _ _ HBK3.out) 4 rfl
        have b5 : w4b.cell? ⟨qb, 5, none⟩ = some (.bool true) := cell_h (HM4.out.inn _ _ HBK3.out) 5 rfl
        have b6 : w4b.cell? ⟨qb, 6, none⟩ = some (.string purp) := cell_h (HM4.out.inn _ _ HBK3.out) 6 rfl
        have b7 : w4b.cell? ⟨qb, 7, none⟩ = some (.slice A4 sd.length cap4) := cell_h (HM4.out.inn _ _ HBK3.out) 7 rfl
        dsimp only at HVX
        go_wp2_with fail
        refine (wanted_any H3 A4 cap4 sd t' purp at_ w4b HM4.out.inn HR3.out HSA.out (by omega) hle4 HBD.out (HTB.out t' rfl) (by omega) (by omega)).mono ?_
        rintro e w5 ⟨v, rfl, hOi, hb⟩
        obtain ⟨A5, cap5, H5, hv5, hle5, p1, p2, hR5, p3, -⟩ := hOi.freeze H3
        subst hv5
        have hin5 := p1 (HM4.out.inn.below hb)
        have hle := p2 (fun g hg => HM4.out.inn.none_ (hOi.lt hg).1)
        have hM5 := HM4.out.below hb
        have HM5 : Hid (PS H5 w ⟨kind, text⟩ #[.slice A ps.length cap, .string purp, .string region, .int .i64 ch, .int .i64 at_] w5) := ⟨hin5, hM5.bel, hM5.h1, hM5.h3⟩
        have HLE5 := Lib.hid (HLE3.out.trans hle)
        have HW5 := Lib.hid hR5
        have hwl := wantF_len t' purp sd at_
        clear hOi p1 p2 p3 hR5 hin5 hle hM5 hb hf0 HM4 HT HTT HR3 HBK3 HLE3 HAN b0 b1 b2 b3 b4 b5 b6 b7
        generalize wantF t' purp sd at_ = ws at *
        obtain ⟨W5, rfl⟩ : ∃ W5 : World, W5 = w5 := ⟨_, rfl⟩
        go_upto_if 62 with (fail)
        go_cut [22] (fun s22 wx => s22 = .int .i64 (lastNo ss) ∧ wx = W5)
        case first =>
          by_cases hne : ss.length = 0
          · have k0 : ((ss.length : Nat) : Int) = 0 := by omega
            have HNO : Hid (lastNo ss = 0) := dif_pos hne
            clear hne
            go_wp2_with fail
            go_meet
            exact ⟨by rw [HNO.out], rfl⟩
          · have k1 : decide ((0 : Int) < (ss.length : Int)) = true := decide_eq_true (by omega)
            have hlt9 : ss.length - 1 < ss.length := by omega
            have HNO : Hid (lastNo ss = (ss[ss.length - 1]).no) := dif_neg hne
            obtain ⟨b2, off2, hA2, hbl2, hc2⟩ := HR.out.at_ (HM5.out.inn.le HLE5.out) (i := ss.length - 1) hlt9 (by omega)
            subst hA2
            have y0 : W5.cell? ⟨b2, off2 + (ss.length - 1) * 8, none⟩ = some (.int .i64 (ss[ss.length - 1]).no) := hc2 0 (by omega)
            have e1 : IntKind.i64.wrap ((ss.length : Int) - 1) = (ss.length : Int) - 1 := IntWalk.i64_in _ (by omega)
            have e2 : ((ss.length : Int) - 1).toNat = ss.length - 1 := by omega
            have e3 : (0 : Int) ≤ (ss.length : Int) - 1 := by omega
            have e4 : (ss.length : Int) - 1 < ss.length := by omega
            have e5 : (1 : Int) ≤ (ss.length : Int) := by omega
            clear hc2
            generalize ss[ss.length - 1] = sl at *
            clear hne hlt9
            go_wp2_with fail
            go_meet
            exact ⟨by rw [HNO.out], rfl⟩
        case rest =>
        obtain ⟨rfl, hwx⟩ := hcut
        obtain rfl := hwx.symm
        have HQB := Lib.hid HM5.out.h3
        have HQL := Lib.hid (lt_of_heap HM5.out.h3)
        go_wp2_with fail
        generalize hno' : lastNo ss = no at *
        clear hno'
        have HIG0 : Hid (IG 38 8 fSt H5 W5.heap.size (.slice none 0 0) ([] : List StD) w W5) := ⟨HM5.out.inn, Orow.nil _ _ _ _ _, fun g hg => by simp [Value.ownBlock] at hg, HM5.out.bel, HM5.out.bel.size, Nat.le_refl _⟩
        have HXB := Lib.hid HM5.out.h1
        have HXL := Lib.hid (lt_of_heap HM5.out.h1)
        generalize hib : W5.heap.size = ib at *
        go_loopw [23, 24, 25, 26, 72] (fun t23 _ _ _ t72 wr => ∃ (i : Nat) (v' : Value), i ≤ ws.length ∧ t23 = v' ∧ t72 = .int .i64 i ∧ Hid (IG 38 8 fSt H5 ib v' ((outsF no kind text purp region ch at_ ws).take i) w wr) ∧ Hid (Below ib W5 wr)) (fun _ _ _ _ t _ => ws.length - (intOf t).toNat)
        case atStart => exact ⟨0, _, by omega, rfl, rfl, HIG0, Below.refl _ _⟩
        case round =>
          obtain ⟨i, v', hi, rfl, rfl, hI, hBW⟩ := hrel
          clear HIG0
          by_cases hlt : i < ws.length
          · obtain ⟨b5, off5, hA5, hbl5, hc5⟩ := HW5.out.at_ hI.out.inn hlt (by omega)
            subst hA5
            have y0 := hc5 0 (by omega)
            rw [show off5 + i * 1 + 0 = off5 + i from by omega] at y0
            unfold fI at y0
            have hx1 := (hBW.out.block _ HXL.out).trans HXB.out
            have x0 : wr.cell? ⟨w.heap.size, 0, none⟩ = some (.int .i64 kind) := cell_h hx1 0 rfl
            have x1 : wr.cell? ⟨w.heap.size, 1, none⟩ = some (.string text) := cell_h hx1 1 rfl
            have HTK := Lib.hid (outsF_take (no := no) (kind := kind) (text := text) (purp := purp) (region := region) (ch := ch) (at_ := at_) hlt)
            have e1 : IntKind.i64.wrap (no + 1) = no + 1 := IntWalk.i64_in _ (by omega)
            have e2 : IntKind.i64.wrap (no + 1 + (i : Int)) = no + 1 + (i : Int) := IntWalk.i64_in _ (by omega)
            clear hc5 hx1
            generalize ws[i] = wv at *
            have HI8 := Lib.hid (hI.out.below (new1 (.cells #[.int .i64 (no + 1 + (i : Int)), .int .i64 at_, .int .i64 kind, .string text, .string purp, .string region, .int .i64 ch, .int .i64 wv] 38)))
            have HB8 := Lib.hid (hBW.out.trans ((new1 (w := wr) (.cells #[.int .i64 (no + 1 + (i : Int)), .int .i64 at_, .int .i64 kind, .string text, .string purp, .string region, .int .i64 ch, .int .i64 wv] 38)).mono hI.out.le))
            have HNB : Hid ((wr.alloc (.cells #[.int .i64 (no + 1 + (i : Int)), .int .i64 at_, .int .i64 kind, .string text, .string purp, .string region, .int .i64 ch, .int .i64 wv] 38)).heap[wr.heap.size]? = some (.cells #[.int .i64 (no + 1 + (i : Int)), .int .i64 at_, .int .i64 kind, .string text, .string purp, .string region, .int .i64 ch, .int .i64 wv] 38)) := heap_alloc_new _ _
            have HNN : Hid (u23.ownBlock ≠ some wr.heap.size ∧ H5 wr.heap.size = none ∧ w.heap.size ≤ wr.heap.size ∧ ib ≤ wr.heap.size) := ⟨fun e => by have := (hI.out.row.lt e).2; omega, hI.out.inn.none_ (Nat.le_refl _), hI.out.bel.size, hI.out.le⟩
            clear hI hBW
            go_upto_region 21 with (fail)
            generalize wr.alloc (.cells #[.int .i64 (no + 1 + (i : Int)), .int .i64 at_, .int .i64 kind, .string text, .string purp, .string region, .int .i64 ch, .int .i64 wv] 38) = W8 at *
            generalize wr.heap.size = nb at *
            clear x0 x1 y0 e1 e2
            go_wp2_with fail
            refine (ofChannel_any wv _).mono ?_
            rintro e w9 ⟨rfl, rfl⟩
            cases hoc : ofCh wv with
            | true =>
              have HD : Hid (outS no kind text purp region ch at_ i wv = ⟨no + 1 + i, at_, kind, text, ⟨#[]⟩, region, ch, wv⟩) := by show _ = _; unfold outS; rw [if_pos hoc]
              have hfz := froz_h HNB.out 4
              have z4 : W8.cell? ⟨nb, 4, none⟩ = some (.string purp) := cell_h HNB.out 4 rfl
              have HNB2 := Lib.hid (set_at (m := 4) HNB.out (.string ⟨#[]⟩))
              have HI9 := Lib.hid (HI8.out.setNew (nb := nb) (m := 4) (x := .string ⟨#[]⟩) HNN.out.2.2.1 HNN.out.1 HNN.out.2.1)
              have HB9 : Hid (Below ib W5 (W8.setCell ⟨nb, 4, none⟩ (.string ⟨#[]⟩))) := HB8.out.setCell HNN.out.2.2.2 _
              clear HI8 HB8 HNB hoc
              go_upto_region 23 with (fail)
              generalize W8.setCell ⟨nb, 4, none⟩ (.string ⟨#[]⟩) = W9 at *
              have z0 : W9.cell? ⟨nb, 0, none⟩ = some (.int .i64 (no + 1 + (i : Int))) := cell_h HNB2.out 0 rfl
              have z1 : W9.cell? ⟨nb, 1, none⟩ = some (.int .i64 at_) := cell_h HNB2.out 1 rfl
              have z2 : W9.cell? ⟨nb, 2, none⟩ = some (.int .i64 kind) := cell_h HNB2.out 2 rfl
              have z3 : W9.cell? ⟨nb, 3, none⟩ = some (.string text) := cell_h HNB2.out 3 rfl
              have z4 : W9.cell? ⟨nb, 4, none⟩ = some (.string ⟨#[]⟩) := cell_h HNB2.out 4 rfl
              have z5 : W9.cell? ⟨nb, 5, none⟩ = some (.string region) := cell_h HNB2.out 5 rfl
              have z6 : W9.cell? ⟨nb, 6, none⟩ = some (.int .i64 ch) := cell_h HNB2.out 6 rfl
              have z7 : W9.cell? ⟨nb, 7, none⟩ = some (.int .i64 wv) := cell_h HNB2.out 7 rfl
              rw [HD.out] at HTK
              have HRow := Lib.hid HI9.out.row
              have HST := Lib.hid (fun v' W' o g1 at1 => HI9.out.app (v' := v') (W' := W') (ds' := (outsF no kind text purp region ch at_ ws).take i ++ [⟨no + 1 + i, at_, kind, text, ⟨#[]⟩, region, ch, wv⟩]) o g1 at1)
              have HSB := Lib.hid (fun W' (g1 : W9.grownBy W' u23.ownBlock) => HB9.out.grown g1 (show ib ≤ W9.heap.size from HI9.out.le) (fun q hq => (HI9.out.row.lt hq).1))
              have hB9 := HI9.out.le
              have hpl : ((outsF no kind text purp region ch at_ ws).take i).length ≤ 4294967296 := by rw [List.length_take]; omega
              generalize (outsF no kind text purp region ch at_ ws).take i = zs at *
              clear HI9 HB9 HD
              go_wp2_with (at_builtin; refine wpList_app_at rfl _ _ 28 rfl ib 38 i0 (.agg #[.int .i64 0, .int .i64 0, .int .i64 0, .string ⟨#[]⟩, .string ⟨#[]⟩, .string ⟨#[]⟩, .int .i64 0, .int .i64 0]) 8 88 Tryz.underlying28 hi0 hz0 hz1 hz2 rfl (by decide) fSt _ zs rfl HRow.out ⟨no + 1 + i, at_, kind, text, ⟨#[]⟩, region, ch, wv⟩ #[.int .i64 (no + 1 + (i : Int)), .int .i64 at_, .int .i64 kind, .string text, .string ⟨#[]⟩, .string region, .int .i64 ch, .int .i64 wv] 38 rfl rfl (by simp [Value.oneCell']) hpl (by omega) hB9 ?_; intro v1 WM o1 g1 b1 at1; have HI11 := Lib.hid (HST.out _ _ o1 g1 at1); have HB11 := Lib.hid (HSB.out _ g1); clear o1 g1 b1 at1 HST HRow HSB)
              rw [← HTK.out] at HI11
              go_roundw
              case rel => exact ⟨i + 1, v1, by omega, rfl, by go_num, HI11, HB11⟩
              case measure => simp [intOf]; omega
            | false =>
              have HD : Hid (outS no kind text purp region ch at_ i wv = ⟨no + 1 + i, at_, kind, text, purp, region, ch, wv⟩) := by show _ = _; unfold outS; rw [if_neg (by rw [hoc]; decide)]
              have HNB2 := HNB
              have HI9 := HI8
              have HB9 := HB8
              clear HI8 HB8 HNB hoc
              go_upto_region 23 with (fail)
              obtain ⟨W9, rfl⟩ : ∃ W9 : World, W9 = W8 := ⟨_, rfl⟩
              have z0 : W9.cell? ⟨nb, 0, none⟩ = some (.int .i64 (no + 1 + (i : Int))) := cell_h HNB2.out 0 rfl
              have z1 : W9.cell? ⟨nb, 1, none⟩ = some (.int .i64 at_) := cell_h HNB2.out 1 rfl
              have z2 : W9.cell? ⟨nb, 2, none⟩ = some (.int .i64 kind) := cell_h HNB2.out 2 rfl
              have z3 : W9.cell? ⟨nb, 3, none⟩ = some (.string text) := cell_h HNB2.out 3 rfl
              have z4 : W9.cell? ⟨nb, 4, none⟩ = some (.string purp) := cell_h HNB2.out 4 rfl
              have z5 : W9.cell? ⟨nb, 5, none⟩ = some (.string region) := cell_h HNB2.out 5 rfl
              have z6 : W9.cell? ⟨nb, 6, none⟩ = some (.int .i64 ch) := cell_h HNB2.out 6 rfl
              have z7 : W9.cell? ⟨nb, 7, none⟩ = some (.int .i64 wv) := cell_h HNB2.out 7 rfl
              rw [HD.out] at HTK
              have HRow := Lib.hid HI9.out.row
              have HST := Lib.hid (fun v' W' o g1 at1 => HI9.out.app (v' := v') (W' := W') (ds' := (outsF no kind text purp region ch at_ ws).take i ++ [⟨no + 1 + i, at_, kind, text, purp, region, ch, wv⟩]) o g1 at1)
              have HSB := Lib.hid (fun W' (g1 : W9.grownBy W' u23.ownBlock) => HB9.out.grown g1 (show ib ≤ W9.heap.size from HI9.out.le) (fun q hq => (HI9.out.row.lt hq).1))
              have hB9 := HI9.out.le
              have hpl : ((outsF no kind text purp region ch at_ ws).take i).length ≤ 4294967296 := by rw [List.length_take]; omega
              generalize (outsF no kind text purp region ch at_ ws).take i = zs at *
              clear HI9 HB9 HD
              go_wp2_with (at_builtin; refine wpList_app_at rfl _ _ 28 rfl ib 38 i0 (.agg #[.int .i64 0, .int .i64 0, .int .i64 0, .string ⟨#[]⟩, .string ⟨#[]⟩, .string ⟨#[]⟩, .int .i64 0, .int .i64 0]) 8 88 Tryz.underlying28 hi0 hz0 hz1 hz2 rfl (by decide) fSt _ zs rfl HRow.out ⟨no + 1 + i, at_, kind, text, purp, region, ch, wv⟩ #[.int .i64 (no + 1 + (i : Int)), .int .i64 at_, .int .i64 kind, .string text, .string purp, .string region, .int .i64 ch, .int .i64 wv] 38 rfl rfl (by simp [Value.oneCell']) hpl (by omega) hB9 ?_; intro v1 WM o1 g1 b1 at1; have HI11 := Lib.hid (HST.out _ _ o1 g1 at1); have HB11 := Lib.hid (HSB.out _ g1); clear o1 g1 b1 at1 HST HRow HSB)
              rw [← HTK.out] at HI11
              go_roundw
              case rel => exact ⟨i + 1, v1, by omega, rfl, by go_num, HI11, HB11⟩
              case measure => simp [intOf]; omega
          · have hie : i = ws.length := by omega
            subst hie
            rw [← outsF_len (no := no) (kind := kind) (text := text) (purp := purp) (region := region) (ch := ch) (at_ := at_) (ws := ws), List.take_length] at hI
            obtain ⟨A6, cap6, H6, hv6, hle6, p1, p2, hR6, p3, -⟩ := hI.out.row.freeze H5
            subst hv6
            have HROW0 := Lib.hid (hI.out.row.mono hI.out.hB)
            have HBE0 := Lib.hid hI.out.bel
            have HIN6 := Lib.hid (p1 hI.out.inn)
            have HLE56 := Lib.hid (p2 hI.out.own)
            have HLE6 := Lib.hid (HLE5.out.trans HLE56.out)
            have HX6 := Lib.hid ((hBW.out.block _ HXL.out).trans HXB.out)
            have HQ6 := Lib.hid ((hBW.out.block _ HQL.out).trans HQB.out)
            have HR6 := Lib.hid hR6
            have holen : (outsF no kind text purp region ch at_ ws).length ≤ 2 := by rw [outsF_len]; omega
            have HBD2 : Hid (Bd (saidF (ss ++ outsF no kind text purp region ch at_ ws) kind text ch)) := said_bd (fun s hs => by
              rcases List.mem_append.1 hs with hs | hs
              · exact HSBD.out s hs
              · obtain ⟨j, hj, rfl⟩ := List.mem_iff_getElem.1 hs
                have : (outsF no kind text purp region ch at_ ws)[j].at_ = at_ := by simp [outsF, outS]
                omega) kind text ch
            generalize outsF no kind text purp region ch at_ ws = outs at *
            clear hI hBW p1 p2 p3 hR6 HLE56
            obtain ⟨ls, hls⟩ : ∃ ls : List SlD, ls = [⟨A2, cap2, ss⟩, ⟨A6, cap6, outs⟩] := ⟨_, rfl⟩
            have HLS : Hid (ls.length = 2) := by show _ = _; rw [hls]; rfl
            have HCAT : Hid (catF ls = ss ++ outs) := by show _ = _; rw [hls]; simp [catF]
            have HALL : Hid (∀ d ∈ ls, Rw H6 d.A 8 fSt d.l) := by
              intro d hd
              rw [hls] at hd
              simp at hd
              rcases hd with rfl | rfl
              · exact HR.out.le HLE6.out
              · exact HR6.out
            have HPUT : Hid (∀ W : World, H6.In W → ∃ H', H6.Le H' ∧ H'.In (W.alloc (.cells #[.slice A2 ss.length cap2, .slice A6 outs.length cap6] 28)) ∧ Rw H' (some ⟨W.heap.size, 0, none⟩) 1 fSl ls) := by
              intro W hW
              obtain ⟨H', le, hb, hin⟩ := hW.put (.cells #[.slice A2 ss.length cap2, .slice A6 outs.length cap6] 28)
              refine ⟨H', le, hin, Rw_blk (T := 28) ?_⟩
              have hcs : cellsOf 1 fSl ls = [.slice A2 ss.length cap2, .slice A6 outs.length cap6] := by rw [hls]; rfl
              rw [hcs]
              exact hb
            clear hls
            have HA2 := Lib.hid (HAFG.out (ss ++ outs))
            obtain ⟨wx, rfl⟩ : ∃ wx : World, wx = wr := ⟨_, rfl⟩
            go_wp2_with fail
            refine wp_region_conc 10 128 (φ26 wx.heap.size (.agg #[.slice A ps.length cap, .string purp, .string region, .int .i64 ch, .int .i64 at_]) (.agg #[.int .i64 kind, .string text]) (.slice A2 ss.length cap2) (.slice A6 outs.length cap6) H6 ls (saidF (ss ++ outs) kind text ch) t' purp (.int .i64 at_) (ansV (answerF (some t') purp (saidF (ss ++ outs) kind text ch) at_))) (fun k W => H6.In W ∧ Below wx.heap.size wx W) (fun a b => Below a.heap.size a b) (by kernel_rfl) (by kernel_rfl) (by rfl) ⟨HIN6.out, (Below.refl _ _).drew⟩ φ26_mono ?_ ?_
            · intro n o hn ho a W2 kk hkk hJ hkn
              have hcs : n = 0 ∨ n = 1 ∨ n = 2 ∨ n = 3 ∨ n = 4 ∨ n = 5 ∨ n = 6 ∨ n = 7 ∨ n = 8 ∨ n = 9 := by omega
              rcases hcs with rfl | rfl | rfl | rfl | rfl | rfl | rfl | rfl | rfl | rfl
              · obtain rfl := Option.some.inj ho
                have h1 := slot_of (hkn 18 (by decide) : a.tmps.getD 18 undef = .pointer (some ⟨w.heap.size + 1, 0, none⟩))
                have q0 : W2.cell? ⟨w.heap.size + 1, 0, none⟩ = some (.slice A ps.length cap) := cell_h ((hJ.2.block _ (lt_of_heap HQ6.out)).trans HQ6.out) 0 rfl
                have q1 : W2.cell? ⟨w.heap.size + 1, 1, none⟩ = some (.string purp) := cell_h ((hJ.2.block _ (lt_of_heap HQ6.out)).trans HQ6.out) 1 rfl
                have q2 : W2.cell? ⟨w.heap.size + 1, 2, none⟩ = some (.string region) := cell_h ((hJ.2.block _ (lt_of_heap HQ6.out)).trans HQ6.out) 2 rfl
                have q3 : W2.cell? ⟨w.heap.size + 1, 3, none⟩ = some (.int .i64 ch) := cell_h ((hJ.2.block _ (lt_of_heap HQ6.out)).trans HQ6.out) 3 rfl
                have q4 : W2.cell? ⟨w.heap.size + 1, 4, none⟩ = some (.int .i64 at_) := cell_h ((hJ.2.block _ (lt_of_heap HQ6.out)).trans HQ6.out) 4 rfl
                clear hkn ho
                simp only [OpV, execOp]
                simp [go_sem, h1, q0, q1, q2, q3, q4]
                exact ⟨rfl, hJ, Below.refl _ _⟩
              · obtain rfl := Option.some.inj ho
                exact ⟨hkn 1 (by decide), hJ, Below.refl _ _⟩
              · obtain rfl := Option.some.inj ho
                exact ⟨hkn 23 (by decide), hJ, Below.refl _ _⟩
              · obtain rfl := Option.some.inj ho
                have h1 := slot_of (hkn 98 (by decide) : a.tmps.getD 98 undef = .slice A2 ss.length cap2)
                have h2 := slot_of (hkn 99 (by decide) : a.tmps.getD 99 undef = .slice A6 outs.length cap6)
                obtain ⟨H', le, hin, hRl⟩ := HPUT.out W2 hJ.1
                clear hkn ho
                simp only [OpV, execOp]
                simp [go_sem, h1, h2]
                exact ⟨⟨W2.heap.size, H', rfl, le, hin, hRl⟩, ⟨hJ.1.alloc _, hJ.2.trans ((new1 _).mono hJ.2.size)⟩, new1 _⟩
              · obtain rfl := Option.some.inj ho
                obtain ⟨q, H', h1, le, hin, hRl⟩ : ∃ (q : Nat) (H' : Frz), a.tmps.getD 100 undef = .slice (some ⟨q, 0, none⟩) 2 2 ∧ H6.Le H' ∧ H'.In W2 ∧ Rw H' (some ⟨q, 0, none⟩) 1 fSl ls := hkn 100 (by decide)
                replace h1 := slot_of h1
                have hcc := concat_St H' (some ⟨q, 0, none⟩) 2 ls W2 hin hRl (fun d hd => (HALL.out d hd).le le) (by have := HLS.out; omega) (by rw [HCAT.out, List.length_append]; omega)
                rw [HLS.out] at hcc
                clear hkn ho
                simp only [OpV, execOp]
                simp [go_sem, h1]
                refine hcc.mono ?_
                rintro e w' ⟨⟨v, rfl, hO⟩, hb⟩
                obtain ⟨A9, cap9, H9, hv9, -, p1, p2, hR9, -⟩ := hO.freeze H'
                exact ⟨v, rfl, ⟨A9, cap9, H9, hv9, le.trans (p2 (fun g hg => hin.none_ (hO.lt hg).1)), p1 (hin.below hb), hR9⟩, ⟨hJ.1.below hb, hJ.2.trans (hb.mono hJ.2.size)⟩, hb⟩
              · obtain rfl := Option.some.inj ho
                have h1 := slot_of (hkn 10 (by decide) : a.tmps.getD 10 undef = .pointer (some ⟨w.heap.size, 0, none⟩))
                have x0 : W2.cell? ⟨w.heap.size, 0, none⟩ = some (.int .i64 kind) := cell_h ((hJ.2.block _ (lt_of_heap HX6.out)).trans HX6.out) 0 rfl
                have x1 : W2.cell? ⟨w.heap.size, 1, none⟩ = some (.string text) := cell_h ((hJ.2.block _ (lt_of_heap HX6.out)).trans HX6.out) 1 rfl
                clear hkn ho
                simp only [OpV, execOp]
                simp [go_sem, h1, x0, x1]
                exact ⟨rfl, hJ, Below.refl _ _⟩
              · obtain rfl := Option.some.inj ho
                have h1 := slot_of (hkn 97 (by decide) : a.tmps.getD 97 undef = .agg #[.slice A ps.length cap, .string purp, .string region, .int .i64 ch, .int .i64 at_])
                obtain ⟨A9, cap9, H9, h2, le, hin, hR9⟩ : ∃ (A : Option Addr) (cap : Nat) (H' : Frz), a.tmps.getD 101 undef = .slice A (catF ls).length cap ∧ H6.Le H' ∧ H'.In W2 ∧ Rw H' A 8 fSt (catF ls) := hkn 101 (by decide)
                replace h2 := slot_of h2
                have h3 := slot_of (hkn 102 (by decide) : a.tmps.getD 102 undef = .agg #[.int .i64 kind, .string text])
                rw [HCAT.out] at h2 hR9
                have hak := HASKG.out H9 (HLE6.out.trans le) A9 cap9 (ss ++ outs) hR9 (by rw [List.length_append]; omega) W2 hin
                clear hkn ho
                simp only [OpV, execOp]
                simp [go_sem, h1, h2, h3]
                simp only [List.length_append] at hak
                refine hak.mono ?_
                rintro e w' ⟨v, rfl, hO, hb⟩
                obtain ⟨A8, cap8, H8, hv8, hle8, p1, p2, hR8, -⟩ := hO.freeze H9
                subst hv8
                exact ⟨_, rfl, ⟨A8, cap8, H8, rfl, p1 (hin.below hb), hR8, hle8⟩, ⟨hJ.1.below hb, hJ.2.trans (hb.mono hJ.2.size)⟩, hb⟩
              · obtain rfl := Option.some.inj ho
                exact ⟨hkn 6 (by decide), hJ, Below.refl _ _⟩
              · obtain rfl := Option.some.inj ho
                obtain ⟨A8, cap8, H8, h1, hin, hR8, hle8⟩ : ∃ (A : Option Addr) (cap : Nat) (H' : Frz), a.tmps.getD 103 undef = .agg #[.string t'.region, .int .i64 t'.ch, .bool t'.free, .int .i64 t'.days, .int .i64 t'.wait, .bool true, .string purp, .slice A (saidF (ss ++ outs) kind text ch).length cap] ∧ H'.In W2 ∧ Rw H' A 8 fSt (saidF (ss ++ outs) kind text ch) ∧ (saidF (ss ++ outs) kind text ch).length ≤ cap := hkn 103 (by decide)
                replace h1 := slot_of h1
                have h2 := slot_of (hkn 104 (by decide) : a.tmps.getD 104 undef = .int .i64 at_)
                have hsl2 := said_len (ss ++ outs) kind text ch
                rw [List.length_append] at hsl2
                have han := answer_some H8 A8 cap8 (saidF (ss ++ outs) kind text ch) t' purp at_ W2 hin hR8 (saidF_at _ _ _ _) (by omega) hle8 HBD2.out (HTB.out t' rfl) (by omega) (by omega)
                clear hkn ho hsl2
                simp only [OpV, execOp]
                simp [go_sem, h1, h2]
                refine han.mono ?_
                rintro e w' ⟨rfl, hb⟩
                exact ⟨_, rfl, rfl, ⟨hJ.1.below hb, hJ.2.trans (hb.mono hJ.2.size)⟩, hb⟩
              · obtain rfl := Option.some.inj ho
                clear hkn ho
                simp only [OpV, execOp]
                simp [go_sem]
                exact ⟨⟨W2.heap.size, rfl, hJ.2.size, heap_alloc_new _ _⟩, ⟨hJ.1.alloc _, hJ.2.trans ((new1 _).mono hJ.2.size)⟩, new1 _⟩
            · intro yv W9 hW9 hφ
              have e8 : yv 8 = ansV (answerF (some t') purp (saidF (ss ++ outs) kind text ch) at_) := hφ 8 (by omega)
              obtain ⟨q, e9, hq1, hq2⟩ : ∃ q : Nat, yv 9 = .pointer (some ⟨q, 0, none⟩) ∧ wx.heap.size ≤ q ∧ W9.heap[q]? = some (.cells #[.bool false, .int .i64 0, .int .i64 0] 92 (0, 0)) := hφ 9 (by omega)
              rw [← HA2.out] at e8
              generalize askF ps (ss ++ outs) kind text purp region ch at_ = ans2 at *
              obtain ⟨am2, ay2, an2⟩ := ans2
              rw [show ansV ⟨am2, ay2, an2⟩ = .agg #[.bool am2, .int .i64 ay2, .int .i64 an2] from rfl] at e8
              clear hφ
              simp only [List.drop_succ_cons, List.drop_zero, List.take_succ_cons, List.take_zero, putAll, Nat.reduceAdd, e8, e9]
              clear e8 e9
              generalize yv 0 = y0
              generalize yv 1 = y1
              generalize yv 2 = y2
              generalize yv 3 = y3
              generalize yv 4 = y4
              generalize yv 5 = y5
              generalize yv 6 = y6
              generalize yv 7 = y7
              have a0 : W9.cell? ⟨q, 0, none⟩ = some (.bool false) := cell_h hq2 0 rfl
              have a1 : W9.cell? ⟨q, 1, none⟩ = some (.int .i64 0) := cell_h hq2 1 rfl
              have a2 : W9.cell? ⟨q, 2, none⟩ = some (.int .i64 0) := cell_h hq2 2 rfl
              have b0 := froz_h hq2 0
              have b1 := froz_h hq2 1
              have b2 := froz_h hq2 2
              have HK9 := Lib.hid (set3 hq2 (.bool am2) (.int .i64 ay2) (.int .i64 an2))
              have hbx := below_set3 hW9.2 hq1 (.bool am2) (.int .i64 ay2) (.int .i64 an2)
              have HROW := Lib.hid (HROW0.out.below hbx)
              have HBE := Lib.hid (HBE0.out.trans (hbx.mono HBE0.out.size))
              clear hq1 hq2 hW9 hbx HROW0 HBE0 HIN6 HX6 HQ6 HALL HPUT HBD2 HA2
              go_upto_region 27 with (fail)
              generalize ((W9.setCell ⟨q, 0, none⟩ (.bool am2)).setCell ⟨q, 1, none⟩ (.int .i64 ay2)).setCell ⟨q, 2, none⟩ (.int .i64 an2) = WC at *
              clear a0 a1 a2 b0 b1 b2
              have u0 : WC.cell? ⟨q, 0, none⟩ = some (.bool am2) := cell_h HK9.out 0 rfl
              have u1 : WC.cell? ⟨q, 1, none⟩ = some (.int .i64 ay2) := cell_h HK9.out 1 rfl
              clear HK9
              cases am2 with
              | true =>
                have HVX := Lib.hid (HVX.out.trans (if_neg (fun c => by cases c.1)))
                have k1 : decide ((3000 : Int) < (ss.length : Int) + (outs.length : Int)) = false := by simp; omega
                have e3 : IntKind.i64.wrap ((ss.length : Int) + (outs.length : Int)) = (ss.length : Int) + (outs.length : Int) := IntWalk.i64_in _ (by omega)
                have e4 : IntKind.i64.wrap (no + (outs.length : Int)) = no + (outs.length : Int) := IntWalk.i64_in _ (by omega)
                by_cases g9 : 1000000 < no + (outs.length : Int)
                · have k2 : decide ((1000000 : Int) < no + (outs.length : Int)) = true := by simpa using g9
                  have HV := Lib.hid (HVX.out.trans (if_pos (Or.inr g9)))
                  clear g9 HVX
                  go_wp2_with fail
                  go_ret2
                  exact WishPost.nil HV.out HBE.out
                · have k2 : decide ((1000000 : Int) < no + (outs.length : Int)) = false := by simpa using g9
                  have HV := Lib.hid (HVX.out.trans (if_neg (show ¬ (3000 < ss.length + outs.length ∨ 1000000 < no + (outs.length : Int)) by omega)))
                  clear g9 HVX
                  go_wp2_with fail
                  go_ret2
                  rw [HV.out]
                  exact ⟨_, rfl, HROW.out, HBE.out⟩
              | false =>
                by_cases g8 : ay2 = 8
                · have k8 : (ay2 != 8) = false := by simpa using g8
                  have HVX := Lib.hid (HVX.out.trans (if_neg (fun c => c.2 g8)))
                  clear g8
                  have k1 : decide ((3000 : Int) < (ss.length : Int) + (outs.length : Int)) = false := by simp; omega
                  have e3 : IntKind.i64.wrap ((ss.length : Int) + (outs.length : Int)) = (ss.length : Int) + (outs.length : Int) := IntWalk.i64_in _ (by omega)
                  have e4 : IntKind.i64.wrap (no + (outs.length : Int)) = no + (outs.length : Int) := IntWalk.i64_in _ (by omega)
                  by_cases g9 : 1000000 < no + (outs.length : Int)
                  · have k2 : decide ((1000000 : Int) < no + (outs.length : Int)) = true := by simpa using g9
                    have HV := Lib.hid (HVX.out.trans (if_pos (Or.inr g9)))
                    clear g9 HVX
                    go_wp2_with fail
                    go_ret2
                    exact WishPost.nil HV.out HBE.out
                  · have k2 : decide ((1000000 : Int) < no + (outs.length : Int)) = false := by simpa using g9
                    have HV := Lib.hid (HVX.out.trans (if_neg (show ¬ (3000 < ss.length + outs.length ∨ 1000000 < no + (outs.length : Int)) by omega)))
                    clear g9 HVX
                    go_wp2_with fail
                    go_ret2
                    rw [HV.out]
                    exact ⟨_, rfl, HROW.out, HBE.out⟩
                · have k8 : (ay2 != 8) = true := by simpa using g8
                  have HV13 : Hid (res = (13, [])) := by
                    show _ = _
                    rw [HVX.out]
                    simp [g8]
                  clear g8
                  go_wp2_with fail
                  go_ret2
                  exact WishPost.nil HV13.out HBE.out
  · have HV := Lib.hid (HPA1.out g1)
    have k1 : (ae != 0) = true := by simpa using g1
    clear HPA1 HPA2 HPA3 HER
    go_wp2_with fail
    go_ret2
    exact WishPost.nil HV.out HM2.out.bel
end Go.Proofs.YtmlpfbffecdepaaGreatDoor

/- A region that draws its order and holds stores beside calls and allocations: what each operation leaves. -/
namespace Go.Proofs.YtmlpfbffecdepaaGreatDoor
set_option linter.unusedVariables false
open Go.RowKit

def concWB (l : List Oper) (n N : Nat) : Bool :=
  decide (n < l.length) && Region.sinkB .any l.toArray n && Region.chainB .any l.toArray n && Region.seqB .any l.toArray (l.length - n) n (allTrue n l.length) &&
  ((List.range n).all fun i => match l[i]? with
    | some o => o.guard.isNone && (match o.dst with | some d => decide (d < N) && decide (writer l n d = some i) | none => true) &&
        (o.after.toList.all fun e => !Region.binds .any e || decide (e.on < i)) &&
        ((tmpsOf o).all fun s => match writer l n s with | some j => Region.waitsFor .any l.toArray i j | none => true)
    | none => false)
section
variable {P : Program} {l : List Oper} {n N : Nat} {a0 : Act} {φ : Nat → Value → World → Prop} {J : Nat → World → Prop} {E : World → World → Prop} {Q : Exit → Act → World → Prop}
theorem concWB_at (h : concWB l n N = true) {i : Nat} (hi : i < n) : ∃ o, l[i]? = some o ∧ o.guard = none ∧ (∀ d, o.dst = some d → d < N ∧ writer l n d = some i) ∧ (∀ e ∈ o.after, Region.binds .any e = true → e.on < i) ∧ ∀ s ∈ tmpsOf o, ∀ j, writer l n s = some j → Region.waitsFor .any l.toArray i j = true := by
  simp only [concWB, Bool.and_eq_true] at h
  have h1 := List.all_eq_true.1 h.2 i (List.mem_range.2 hi)
  cases ho : l[i]? with
  | none => rw [ho] at h1; cases h1
  | some o =>
    rw [ho] at h1
    simp only [Bool.and_eq_true] at h1
    obtain ⟨⟨⟨g1, g2⟩, g3⟩, g4⟩ := h1
    refine ⟨o, rfl, by simpa using g1, ?_, ?_, ?_⟩
    · intro d hd
      rw [hd] at g2
      simpa only [Bool.and_eq_true, decide_eq_true_eq] using g2
    · intro e he hb
      have := List.all_eq_true.1 g3 e (by simpa using he)
      simpa [hb] using this
    · intro s hs j hj
      have := List.all_eq_true.1 g4 s hs
      rw [hj] at this
      exact this
structure CInvW (l : List Oper) (n : Nat) (a0 : Act) (φ : Nat → Value → World → Prop) (J : Nat → World → Prop) (k : Nat) (listed : Array Bool) (a : Act) (w : World) : Prop where
  head : HeadInv .any l.toArray n listed
  world : J k w
  defers : a.defers = a0.defers
  size : a.tmps.size = a0.tmps.size
  other : ∀ s, writer l n s = none → a.tmps.getD s undef = a0.tmps.getD s undef
  done : ∀ i s, i < n → listed.getD i false = true → dstAt l i = some s → φ i (a.tmps.getD s undef) w
  stored : ∀ i, i < n → listed.getD i false = true → dstAt l i = none → φ i undef w
theorem CInvW.step (hB : concWB l n N = true) (hN : a0.tmps.size = N)
    (hmono : ∀ i x w w', i < n → E w w' → φ i x w → φ i x w') (hnone : ∀ i x w, i < n → dstAt l i = none → φ i x w → φ i undef w)
    (hstep : ∀ i o, i < n → l[i]? = some o → ∀ (a : Act) (w : World) (k : Nat), k < n → J k w → (∀ s ∈ tmpsOf o, known l n a0.tmps φ s (a.tmps.getD s undef) w) → OpV P o a.eval w fun v w' => φ i v w' ∧ J (k + 1) w' ∧ E w w')
    {k : Nat} (hk : k < n) {listed : Array Bool} {a : Act} {w : World} (h : CInvW l n a0 φ J k listed a w) {i : Nat} (hr : i ∈ Region.ready .any l.toArray listed) (hi : i < n) :
    wpOp P l.toArray Q i (fun a' w' => CInvW l n a0 φ J (k + 1) (listed.setIfInBounds i true) a' w') a w := by
  obtain ⟨o, ho, hg, hdw, haft, hdep⟩ := concWB_at hB hi
  have ho' : l.toArray[i]? = some o := by simpa using ho
  have hwant : Region.wanted o (yielded l.toArray a.tmps) = true := by simp [Region.wanted, hg]
  unfold wpOp
  rw [ho']
  simp only [hwant, if_true]
  left
  refine OpV.wp (hstep i o hi ho a w k hk h.world ?_) ?_
  · intro s hs
    unfold known
    cases hws : writer l n s with
    | none => exact h.other s hws
    | some j =>
      obtain ⟨hj, hjd⟩ := writer_dst hws
      obtain ⟨_, oi, hoi, hall⟩ := mem_ready.1 hr
      obtain ⟨oj, hoj, e, he, hb, hon⟩ := Region.waitsFor_spec (hdep s hs j hws)
      have : oj = oi := Option.some.inj (hoj.symm.trans hoi)
      subst this
      have hl := hall e he hb
      rw [hon] at hl
      exact h.done j s hj hl hjd
  · rintro v w' ⟨h1, h2, h3⟩
    cases hd : o.dst with
    | none =>
      have hdi : dstAt l i = none := by simp [dstAt, ho, hd]
      have hput : a.put none v = a := rfl
      rw [hput]
      refine ⟨h.head.set hr hi, h2, h.defers, h.size, h.other, ?_, ?_⟩
      · intro j s hj hl hjs
        have hne : i ≠ j := by rintro rfl; rw [hdi] at hjs; cases hjs
        rw [getD_set_ne false hne] at hl
        exact hmono j _ w w' hj h3 (h.done j s hj hl hjs)
      · intro j hj hl hjn
        by_cases e : i = j
        · subst e; exact hnone i v w' hi hdi h1
        · rw [getD_set_ne false e] at hl
          exact hmono j _ w w' hj h3 (h.stored j hj hl hjn)
    | some d =>
      obtain ⟨hdN, hw⟩ := hdw d hd
      have hda : d < a.tmps.size := by rw [h.size, hN]; exact hdN
      refine ⟨h.head.set hr hi, h2, h.defers, by simp [Act.put, h.size], ?_, ?_, ?_⟩
      · intro s hs
        rw [getD_put hda]
        have : s ≠ d := by rintro rfl; rw [hw] at hs; cases hs
        rw [if_neg this]
        exact h.other s hs
      · intro j s hj hl hjs
        rw [getD_put hda]
        by_cases e : s = d
        · subst e
          rw [if_pos rfl]
          have hw2 : writer l n s = some j := by
            obtain ⟨oj, hoj, _, hdwj, _⟩ := concWB_at hB hj
            have : oj.dst = some s := by simpa [dstAt, hoj] using hjs
            exact (hdwj s this).2
          rw [hw] at hw2
          injection hw2 with e2
          subst e2
          exact h1
        · rw [if_neg e]
          have hne : i ≠ j := by
            rintro rfl
            simp only [dstAt, ho, Option.bind_some, hd] at hjs
            injection hjs with e3
            exact e e3.symm
          rw [getD_set_ne false hne] at hl
          exact hmono j _ w w' hj h3 (h.done j s hj hl hjs)
      · intro j hj hl hjn
        have hne : i ≠ j := by
          rintro rfl
          simp only [dstAt, ho, Option.bind_some, hd] at hjn
          cases hjn
        rw [getD_set_ne false hne] at hl
        exact hmono j _ w w' hj h3 (h.stored j hj hl hjn)
theorem CInvW.fin (hB : concWB l n N = true) (hN : a0.tmps.size = N) {k : Nat} {listed : Array Bool} {a : Act} {w : World} (h : CInvW l n a0 φ J k listed a w) (hall : ∀ i, i < n → listed.getD i false = true) :
    ∃ x : Nat → Value, (∀ i, i < n → φ i (x i) w ∨ (dstAt l i = none ∧ φ i undef w)) ∧ a = putAll (l.take n) 0 x a0 := by
  refine ⟨fun i => a.tmps.getD ((dstAt l i).getD 0) undef, fun i hi => ?_, ?_⟩
  · cases hds : dstAt l i with
    | none => exact Or.inr ⟨rfl, h.stored i hi (hall i hi) hds⟩
    | some d => exact Or.inl (by show φ i (a.tmps.getD ((dstAt l i).getD 0) undef) w; rw [hds]; exact h.done i d hi (hall i hi) hds)
  · have hs := putAll_size (l.take n) 0 (fun i => a.tmps.getD ((dstAt l i).getD 0) undef) a0
    have htm : a.tmps = (putAll (l.take n) 0 (fun i => a.tmps.getD ((dstAt l i).getD 0) undef) a0).tmps := by
      apply Array.ext
      · rw [hs.1, h.size]
      · intro s h1 h2
        have hdt : ∀ j, dstAt (l.take n) j = some s → j < n ∧ dstAt l j = some s := fun j hj => by
          unfold dstAt at hj ⊢
          rw [List.getElem?_take] at hj
          split at hj
          · exact ⟨‹_›, hj⟩
          · cases hj
        have := putAll_get (l.take n) 0 (fun i => a.tmps.getD ((dstAt l i).getD 0) undef) a0 s (a.tmps.getD s undef) (by rw [← h.size]; exact h1)
          (fun j hj => by rw [Nat.zero_add, (hdt j hj).2]; rfl)
          (fun hno => by
            cases hw : writer l n s with
            | none => exact (h.other s hw).symm
            | some j =>
              obtain ⟨hj, hjd⟩ := writer_dst hw
              refine absurd ?_ (hno j)
              unfold dstAt at hjd ⊢
              rw [List.getElem?_take, if_pos hj]
              exact hjd)
        have e1 : a.tmps.getD s undef = a.tmps[s] := by simp [h1]
        rw [e1] at this
        rw [← this]
        generalize putAll (l.take n) 0 _ a0 = p at h2
        simp [h2]
    obtain ⟨tm, df⟩ := a
    have e2 := h.defers
    simp only at htm e2
    generalize hp : putAll (l.take n) 0 (fun i => tm.getD ((dstAt l i).getD 0) undef) a0 = p at htm hs ⊢
    obtain ⟨tm', df'⟩ := p
    simp only at htm hs
    rw [htm, e2, hs.2]

theorem wpAny_concW (hB : concWB l n N = true) (hN : a0.tmps.size = N)
    (hmono : ∀ i x w w', i < n → E w w' → φ i x w → φ i x w') (hnone : ∀ i x w, i < n → dstAt l i = none → φ i x w → φ i undef w)
    (hstep : ∀ i o, i < n → l[i]? = some o → ∀ (a : Act) (w : World) (k : Nat), k < n → J k w → (∀ s ∈ tmpsOf o, known l n a0.tmps φ s (a.tmps.getD s undef) w) → OpV P o a.eval w fun v w' => φ i v w' ∧ J (k + 1) w' ∧ E w w')
    (hend : ∀ (x : Nat → Value) (w' : World), J n w' → (∀ i, i < n → φ i (x i) w' ∨ (dstAt l i = none ∧ φ i undef w')) → wpList P l.toArray Q (l.drop n) (putAll (l.take n) 0 x a0) w') :
    ∀ (c : Nat) (listed : Array Bool) (a : Act) (w : World), c ≤ n → CInvW l n a0 φ J (n - c) listed a w → ((List.range n).countP fun j => !listed.getD j true) = c → wpAny P .any l.toArray Q (c + (l.length - n)) listed a w := by
  have hB' := hB
  simp only [concWB, Bool.and_eq_true, decide_eq_true_eq] at hB'
  obtain ⟨⟨⟨⟨hn, hsink⟩, hchain⟩, hseq⟩, _⟩ := hB'
  intro c
  induction c with
  | zero =>
    intro listed a w hcn h hc
    have hall : ∀ i, i < n → listed.getD i false = true := fun i hi => by
      have := List.countP_eq_zero.1 hc i (List.mem_range.2 hi)
      have hsz := h.head.size
      have his : i < listed.size := by rw [hsz]; simp; omega
      simp [his] at this ⊢
      exact this
    obtain ⟨x, hx, rfl⟩ := h.fin hB hN hall
    have he := allTrue_eq (n := n) (m := l.length) (by rw [h.head.size]; simp) hall (fun t h1 h2 => h.head.tail t h1 (by simpa using h2))
    have := wpAny_of_seq (P := P) (ops := l.toArray) (md := .any) (Q' := Q) (l.drop n) n listed (putAll (l.take n) 0 x a0) w (fun j => by simp [List.getElem?_drop]) (by rw [List.length_drop, he]; exact hseq) (hend x w h.world hx)
    rw [List.length_drop] at this
    rw [Nat.zero_add]
    exact this
  | succ c ih =>
    intro listed a w hcn h hc
    have hex : ∃ i, i < n ∧ listed.getD i true = false := by
      have : 0 < (List.range n).countP fun j => !listed.getD j true := by omega
      obtain ⟨i, hi, hl⟩ := List.countP_pos_iff.1 this
      exact ⟨i, List.mem_range.1 hi, by simpa using hl⟩
    have hne : Region.ready .any l.toArray listed ≠ [] := by
      have : ∀ m i, i < n → i ≤ m → listed.getD i true = false → ∃ k, k ∈ Region.ready .any l.toArray listed := by
        intro m
        induction m with
        | zero =>
          intro i hi hm hl
          obtain rfl : i = 0 := by omega
          obtain ⟨o, ho, _, _, haft, _⟩ := concWB_at hB hi
          refine ⟨0, mem_ready.2 ⟨hl, o, by simpa using ho, fun e he hb => ?_⟩⟩
          have := haft e he hb
          omega
        | succ m ihm =>
          intro i hi hm hl
          obtain ⟨o, ho, _, _, haft, _⟩ := concWB_at hB hi
          by_cases hd : ∀ e ∈ o.after, Region.binds .any e = true → listed.getD e.on false = true
          · exact ⟨i, mem_ready.2 ⟨hl, o, by simpa using ho, hd⟩⟩
          · obtain ⟨e, hd⟩ := Classical.not_forall.1 hd
            obtain ⟨he, hd⟩ := Classical.not_forall.1 hd
            obtain ⟨hb, hd⟩ := Classical.not_forall.1 hd
            have hlt := haft e he hb
            have hes : e.on < listed.size := by rw [h.head.size]; simp; omega
            exact ihm e.on (by omega) (by omega) (getD_in hes (by simpa using hd))
      obtain ⟨i, hi, hl⟩ := hex
      obtain ⟨k, hk⟩ := this i i hi (Nat.le_refl _) hl
      intro e
      rw [e] at hk
      cases hk
    rw [show c + 1 + (l.length - n) = (c + (l.length - n)) + 1 from by omega]
    refine ⟨fun e => absurd e hne, fun i hi => ?_⟩
    obtain ⟨k, hk, hkl⟩ := hex
    have hin : i < n := by
      rcases Nat.lt_or_ge i n with h' | h'
      · exact h'
      · exact absurd hi (tail_waits hsink hchain (by simpa using hn) h.head (n - k) k rfl hk hkl i h')
    refine wpOp_mono (fun a' w' h' => ih _ _ _ (by omega) (by rw [show n - (c + 1) + 1 = n - c from by omega] at h'; exact h') ?_) (CInvW.step hB hN hmono hnone hstep (by omega) h hi hin)
    have hl := (mem_ready.1 hi).1
    have := countP_set hin hl
    omega

/-- A region that draws its order, by what each operation leaves. -/
theorem wp_region_concW {id : Nat} {w : World} (n N : Nat) (φ : Nat → Value → World → Prop) (J : Nat → World → Prop) (E : World → World → Prop) (hm : P.follows .mixedOrders = true) (hB : concWB l n N = true) (hN : a0.tmps.size = N)
    (hJ : J 0 w.drew) (hmono : ∀ i x w w', i < n → E w w' → φ i x w → φ i x w') (hnone : ∀ i x w, i < n → dstAt l i = none → φ i x w → φ i undef w)
    (hstep : ∀ i o, i < n → l[i]? = some o → ∀ (a : Act) (w : World) (k : Nat), k < n → J k w → (∀ s ∈ tmpsOf o, known l n a0.tmps φ s (a.tmps.getD s undef) w) → OpV P o a.eval w fun v w' => φ i v w' ∧ J (k + 1) w' ∧ E w w')
    (hend : ∀ (x : Nat → Value) (w' : World), J n w' → (∀ i, i < n → φ i (x i) w' ∨ (dstAt l i = none ∧ φ i undef w')) → wpList P l.toArray Q (l.drop n) (putAll (l.take n) 0 x a0) w') :
    (Code.region id l.toArray true).wp P Q a0 w := by
  refine wp_region_any hm ?_
  have hn : n < l.length := by
    simp only [concWB, Bool.and_eq_true, decide_eq_true_eq] at hB
    exact hB.1.1.1.1
  have h0 : CInvW l n a0 φ J (n - n) (Array.replicate l.toArray.size false) a0 w.drew := by
    refine ⟨⟨by simp, fun j oj _ hl => (by rw [getD_replicate_false] at hl; cases hl), fun t _ ht => getD_in (by simpa using ht) (getD_replicate_false _ _)⟩, by rw [Nat.sub_self]; exact hJ, rfl, rfl, fun _ _ => rfl, fun i s _ hl => (by rw [getD_replicate_false] at hl; cases hl), fun i _ hl => by rw [getD_replicate_false] at hl; cases hl⟩
  have hc : ((List.range n).countP fun j => !(Array.replicate l.toArray.size false).getD j true) = n := by
    have : ((List.range n).countP fun j => !(Array.replicate l.toArray.size false).getD j true) = (List.range n).length := by
      rw [List.countP_eq_length]
      intro j hj
      have := List.mem_range.1 hj
      have h2 : j < l.length := by omega
      simp [h2]
    rw [this, List.length_range]
  have := wpAny_concW (Q := Q) hB hN hmono hnone hstep hend n _ _ _ (Nat.le_refl _) h0 hc
  rw [show n + (l.length - n) = l.toArray.size from by simp; omega] at this
  exact this
end
end Go.Proofs.YtmlpfbffecdepaaGreatDoor

/- A region that draws its order and holds a store that may run beside operations that the text has behind it: a state that looks at what has run and at the slots. -/
namespace Go.Proofs.YtmlpfbffecdepaaGreatDoor
set_option linter.unusedVariables false
open Go.RowKit
section
variable {P : Program} {l : List Oper} {n N : Nat} {a0 : Act} {φ : Nat → Value → World → Prop} {J : Array Bool → Act → World → Prop} {E : World → World → Prop} {Q : Exit → Act → World → Prop}
structure CInvV (l : List Oper) (n : Nat) (a0 : Act) (φ : Nat → Value → World → Prop) (J : Array Bool → Act → World → Prop) (listed : Array Bool) (a : Act) (w : World) : Prop where
  head : HeadInv .any l.toArray n listed
  world : J listed a w
  defers : a.defers = a0.defers
  size : a.tmps.size = a0.tmps.size
  other : ∀ s, writer l n s = none → a.tmps.getD s undef = a0.tmps.getD s undef
  done : ∀ i s, i < n → listed.getD i false = true → dstAt l i = some s → φ i (a.tmps.getD s undef) w
  stored : ∀ i, i < n → listed.getD i false = true → dstAt l i = none → φ i undef w
theorem CInvV.step (hB : concWB l n N = true) (hN : a0.tmps.size = N)
    (hmono : ∀ i x w w', i < n → E w w' → φ i x w → φ i x w') (hnone : ∀ i x w, i < n → dstAt l i = none → φ i x w → φ i undef w)
    (hstep : ∀ i o, i < n → l[i]? = some o → ∀ (a : Act) (w : World) (L : Array Bool), i ∈ Region.ready .any l.toArray L → a.tmps.size = a0.tmps.size → L.size = l.length → J L a w → (∀ s ∈ tmpsOf o, known l n a0.tmps φ s (a.tmps.getD s undef) w) → OpV P o a.eval w fun v w' => φ i v w' ∧ J (L.setIfInBounds i true) (a.put o.dst v) w' ∧ E w w')
    {listed : Array Bool} {a : Act} {w : World} (h : CInvV l n a0 φ J listed a w) {i : Nat} (hr : i ∈ Region.ready .any l.toArray listed) (hi : i < n) :
    wpOp P l.toArray Q i (fun a' w' => CInvV l n a0 φ J (listed.setIfInBounds i true) a' w') a w := by
  obtain ⟨o, ho, hg, hdw, haft, hdep⟩ := concWB_at hB hi
  have ho' : l.toArray[i]? = some o := by simpa using ho
  have hwant : Region.wanted o (yielded l.toArray a.tmps) = true := by simp [Region.wanted, hg]
  unfold wpOp
  rw [ho']
  simp only [hwant, if_true]
  left
  refine OpV.wp (hstep i o hi ho a w listed hr h.size (by rw [h.head.size]; simp) h.world ?_) ?_
  · intro s hs
    unfold known
    cases hws : writer l n s with
    | none => exact h.other s hws
    | some j =>
      obtain ⟨hj, hjd⟩ := writer_dst hws
      obtain ⟨_, oi, hoi, hall⟩ := mem_ready.1 hr
      obtain ⟨oj, hoj, e, he, hb, hon⟩ := Region.waitsFor_spec (hdep s hs j hws)
      have : oj = oi := Option.some.inj (hoj.symm.trans hoi)
      subst this
      have hl := hall e he hb
      rw [hon] at hl
      exact h.done j s hj hl hjd
  · rintro v w' ⟨h1, h2, h3⟩
    cases hd : o.dst with
    | none =>
      have hdi : dstAt l i = none := by simp [dstAt, ho, hd]
      have hput : a.put none v = a := rfl
      rw [hd, hput] at h2
      rw [hput]
      refine ⟨h.head.set hr hi, h2, h.defers, h.size, h.other, ?_, ?_⟩
      · intro j s hj hl hjs
        have hne : i ≠ j := by rintro rfl; rw [hdi] at hjs; cases hjs
        rw [getD_set_ne false hne] at hl
        exact hmono j _ w w' hj h3 (h.done j s hj hl hjs)
      · intro j hj hl hjn
        by_cases e : i = j
        · subst e; exact hnone i v w' hi hdi h1
        · rw [getD_set_ne false e] at hl
          exact hmono j _ w w' hj h3 (h.stored j hj hl hjn)
    | some d =>
      obtain ⟨hdN, hw⟩ := hdw d hd
      have hda : d < a.tmps.size := by rw [h.size, hN]; exact hdN
      rw [hd] at h2
      refine ⟨h.head.set hr hi, h2, h.defers, by simp [Act.put, h.size], ?_, ?_, ?_⟩
      · intro s hs
        rw [getD_put hda]
        have : s ≠ d := by rintro rfl; rw [hw] at hs; cases hs
        rw [if_neg this]
        exact h.other s hs
      · intro j s hj hl hjs
        rw [getD_put hda]
        by_cases e : s = d
        · subst e
          rw [if_pos rfl]
          have hw2 : writer l n s = some j := by
            obtain ⟨oj, hoj, _, hdwj, _⟩ := concWB_at hB hj
            have : oj.dst = some s := by simpa [dstAt, hoj] using hjs
            exact (hdwj s this).2
          rw [hw] at hw2
          injection hw2 with e2
          subst e2
          exact h1
        · rw [if_neg e]
          have hne : i ≠ j := by
            rintro rfl
            simp only [dstAt, ho, Option.bind_some, hd] at hjs
            injection hjs with e3
            exact e e3.symm
          rw [getD_set_ne false hne] at hl
          exact hmono j _ w w' hj h3 (h.done j s hj hl hjs)
      · intro j hj hl hjn
        have hne : i ≠ j := by
          rintro rfl
          simp only [dstAt, ho, Option.bind_some, hd] at hjn
          cases hjn
        rw [getD_set_ne false hne] at hl
        exact hmono j _ w w' hj h3 (h.stored j hj hl hjn)
theorem CInvV.fin (hB : concWB l n N = true) (hN : a0.tmps.size = N) {listed : Array Bool} {a : Act} {w : World} (h : CInvV l n a0 φ J listed a w) (hall : ∀ i, i < n → listed.getD i false = true) :
    ∃ x : Nat → Value, (∀ i, i < n → φ i (x i) w ∨ (dstAt l i = none ∧ φ i undef w)) ∧ (∀ i s, dstAt l i = some s → a.tmps.getD s undef = x i) ∧ a = putAll (l.take n) 0 x a0 := by
  refine ⟨fun i => a.tmps.getD ((dstAt l i).getD 0) undef, fun i hi => ?_, fun i s hs => (by show _ = a.tmps.getD ((dstAt l i).getD 0) undef; rw [hs]; rfl), ?_⟩
  · cases hds : dstAt l i with
    | none => exact Or.inr ⟨rfl, h.stored i hi (hall i hi) hds⟩
    | some d => exact Or.inl (by show φ i (a.tmps.getD ((dstAt l i).getD 0) undef) w; rw [hds]; exact h.done i d hi (hall i hi) hds)
  · have hs := putAll_size (l.take n) 0 (fun i => a.tmps.getD ((dstAt l i).getD 0) undef) a0
    have htm : a.tmps = (putAll (l.take n) 0 (fun i => a.tmps.getD ((dstAt l i).getD 0) undef) a0).tmps := by
      apply Array.ext
      · rw [hs.1, h.size]
      · intro s h1 h2
        have hdt : ∀ j, dstAt (l.take n) j = some s → j < n ∧ dstAt l j = some s := fun j hj => by
          unfold dstAt at hj ⊢
          rw [List.getElem?_take] at hj
          split at hj
          · exact ⟨‹_›, hj⟩
          · cases hj
        have := putAll_get (l.take n) 0 (fun i => a.tmps.getD ((dstAt l i).getD 0) undef) a0 s (a.tmps.getD s undef) (by rw [← h.size]; exact h1)
          (fun j hj => by rw [Nat.zero_add, (hdt j hj).2]; rfl)
          (fun hno => by
            cases hw : writer l n s with
            | none => exact (h.other s hw).symm
            | some j =>
              obtain ⟨hj, hjd⟩ := writer_dst hw
              refine absurd ?_ (hno j)
              unfold dstAt at hjd ⊢
              rw [List.getElem?_take, if_pos hj]
              exact hjd)
        have e1 : a.tmps.getD s undef = a.tmps[s] := by simp [h1]
        rw [e1] at this
        rw [← this]
        generalize putAll (l.take n) 0 _ a0 = p at h2
        simp [h2]
    obtain ⟨tm, df⟩ := a
    have e2 := h.defers
    simp only at htm e2
    generalize hp : putAll (l.take n) 0 (fun i => tm.getD ((dstAt l i).getD 0) undef) a0 = p at htm hs ⊢
    obtain ⟨tm', df'⟩ := p
    simp only at htm hs
    rw [htm, e2, hs.2]

theorem wpAny_concV (hB : concWB l n N = true) (hN : a0.tmps.size = N)
    (hmono : ∀ i x w w', i < n → E w w' → φ i x w → φ i x w') (hnone : ∀ i x w, i < n → dstAt l i = none → φ i x w → φ i undef w)
    (hstep : ∀ i o, i < n → l[i]? = some o → ∀ (a : Act) (w : World) (L : Array Bool), i ∈ Region.ready .any l.toArray L → a.tmps.size = a0.tmps.size → L.size = l.length → J L a w → (∀ s ∈ tmpsOf o, known l n a0.tmps φ s (a.tmps.getD s undef) w) → OpV P o a.eval w fun v w' => φ i v w' ∧ J (L.setIfInBounds i true) (a.put o.dst v) w' ∧ E w w')
    (hend : ∀ (x : Nat → Value) (w' : World) (L : Array Bool), (∀ i, i < n → L.getD i false = true) → J L (putAll (l.take n) 0 x a0) w' → (∀ i s, dstAt l i = some s → (putAll (l.take n) 0 x a0).tmps.getD s undef = x i) → (∀ i, i < n → φ i (x i) w' ∨ (dstAt l i = none ∧ φ i undef w')) → wpList P l.toArray Q (l.drop n) (putAll (l.take n) 0 x a0) w') :
    ∀ (c : Nat) (listed : Array Bool) (a : Act) (w : World), c ≤ n → CInvV l n a0 φ J listed a w → ((List.range n).countP fun j => !listed.getD j true) = c → wpAny P .any l.toArray Q (c + (l.length - n)) listed a w := by
  have hB' := hB
  simp only [concWB, Bool.and_eq_true, decide_eq_true_eq] at hB'
  obtain ⟨⟨⟨⟨hn, hsink⟩, hchain⟩, hseq⟩, _⟩ := hB'
  intro c
  induction c with
  | zero =>
    intro listed a w hcn h hc
    have hall : ∀ i, i < n → listed.getD i false = true := fun i hi => by
      have := List.countP_eq_zero.1 hc i (List.mem_range.2 hi)
      have hsz := h.head.size
      have his : i < listed.size := by rw [hsz]; simp; omega
      simp [his] at this ⊢
      exact this
    obtain ⟨x, hx, hg, rfl⟩ := h.fin hB hN hall
    have he := allTrue_eq (n := n) (m := l.length) (by rw [h.head.size]; simp) hall (fun t h1 h2 => h.head.tail t h1 (by simpa using h2))
    have := wpAny_of_seq (P := P) (ops := l.toArray) (md := .any) (Q' := Q) (l.drop n) n listed (putAll (l.take n) 0 x a0) w (fun j => by simp [List.getElem?_drop]) (by rw [List.length_drop, he]; exact hseq) (hend x w listed hall h.world hg hx)
    rw [List.length_drop] at this
    rw [Nat.zero_add]
    exact this
  | succ c ih =>
    intro listed a w hcn h hc
    have hex : ∃ i, i < n ∧ listed.getD i true = false := by
      have : 0 < (List.range n).countP fun j => !listed.getD j true := by omega
      obtain ⟨i, hi, hl⟩ := List.countP_pos_iff.1 this
      exact ⟨i, List.mem_range.1 hi, by simpa using hl⟩
    have hne : Region.ready .any l.toArray listed ≠ [] := by
      have : ∀ m i, i < n → i ≤ m → listed.getD i true = false → ∃ k, k ∈ Region.ready .any l.toArray listed := by
        intro m
        induction m with
        | zero =>
          intro i hi hm hl
          obtain rfl : i = 0 := by omega
          obtain ⟨o, ho, _, _, haft, _⟩ := concWB_at hB hi
          refine ⟨0, mem_ready.2 ⟨hl, o, by simpa using ho, fun e he hb => ?_⟩⟩
          have := haft e he hb
          omega
        | succ m ihm =>
          intro i hi hm hl
          obtain ⟨o, ho, _, _, haft, _⟩ := concWB_at hB hi
          by_cases hd : ∀ e ∈ o.after, Region.binds .any e = true → listed.getD e.on false = true
          · exact ⟨i, mem_ready.2 ⟨hl, o, by simpa using ho, hd⟩⟩
          · obtain ⟨e, hd⟩ := Classical.not_forall.1 hd
            obtain ⟨he, hd⟩ := Classical.not_forall.1 hd
            obtain ⟨hb, hd⟩ := Classical.not_forall.1 hd
            have hlt := haft e he hb
            have hes : e.on < listed.size := by rw [h.head.size]; simp; omega
            exact ihm e.on (by omega) (by omega) (getD_in hes (by simpa using hd))
      obtain ⟨i, hi, hl⟩ := hex
      obtain ⟨k, hk⟩ := this i i hi (Nat.le_refl _) hl
      intro e
      rw [e] at hk
      cases hk
    rw [show c + 1 + (l.length - n) = (c + (l.length - n)) + 1 from by omega]
    refine ⟨fun e => absurd e hne, fun i hi => ?_⟩
    obtain ⟨k, hk, hkl⟩ := hex
    have hin : i < n := by
      rcases Nat.lt_or_ge i n with h' | h'
      · exact h'
      · exact absurd hi (tail_waits hsink hchain (by simpa using hn) h.head (n - k) k rfl hk hkl i h')
    refine wpOp_mono (fun a' w' h' => ih _ _ _ (by omega) h' ?_) (CInvV.step hB hN hmono hnone hstep h hi hin)
    have hl := (mem_ready.1 hi).1
    have := countP_set hin hl
    omega

/-- A region that draws its order, by what each operation leaves. -/
theorem wp_region_concV {id : Nat} {w : World} (n N : Nat) (φ : Nat → Value → World → Prop) (J : Array Bool → Act → World → Prop) (E : World → World → Prop) (hm : P.follows .mixedOrders = true) (hB : concWB l n N = true) (hN : a0.tmps.size = N)
    (hJ : J (Array.replicate l.toArray.size false) a0 w.drew) (hmono : ∀ i x w w', i < n → E w w' → φ i x w → φ i x w') (hnone : ∀ i x w, i < n → dstAt l i = none → φ i x w → φ i undef w)
    (hstep : ∀ i o, i < n → l[i]? = some o → ∀ (a : Act) (w : World) (L : Array Bool), i ∈ Region.ready .any l.toArray L → a.tmps.size = a0.tmps.size → L.size = l.length → J L a w → (∀ s ∈ tmpsOf o, known l n a0.tmps φ s (a.tmps.getD s undef) w) → OpV P o a.eval w fun v w' => φ i v w' ∧ J (L.setIfInBounds i true) (a.put o.dst v) w' ∧ E w w')
    (hend : ∀ (x : Nat → Value) (w' : World) (L : Array Bool), (∀ i, i < n → L.getD i false = true) → J L (putAll (l.take n) 0 x a0) w' → (∀ i s, dstAt l i = some s → (putAll (l.take n) 0 x a0).tmps.getD s undef = x i) → (∀ i, i < n → φ i (x i) w' ∨ (dstAt l i = none ∧ φ i undef w')) → wpList P l.toArray Q (l.drop n) (putAll (l.take n) 0 x a0) w') :
    (Code.region id l.toArray true).wp P Q a0 w := by
  refine wp_region_any hm ?_
  have hn : n < l.length := by
    simp only [concWB, Bool.and_eq_true, decide_eq_true_eq] at hB
    exact hB.1.1.1.1
  have h0 : CInvV l n a0 φ J (Array.replicate l.toArray.size false) a0 w.drew := by
    refine ⟨⟨by simp, fun j oj _ hl => (by rw [getD_replicate_false] at hl; cases hl), fun t _ ht => getD_in (by simpa using ht) (getD_replicate_false _ _)⟩, hJ, rfl, rfl, fun _ _ => rfl, fun i s _ hl => (by rw [getD_replicate_false] at hl; cases hl), fun i _ hl => by rw [getD_replicate_false] at hl; cases hl⟩
  have hc : ((List.range n).countP fun j => !(Array.replicate l.toArray.size false).getD j true) = n := by
    have : ((List.range n).countP fun j => !(Array.replicate l.toArray.size false).getD j true) = (List.range n).length := by
      rw [List.countP_eq_length]
      intro j hj
      have := List.mem_range.1 hj
      have h2 : j < l.length := by omega
      simp [h2]
    rw [this, List.length_range]
  have := wpAny_concV (Q := Q) hB hN hmono hnone hstep hend n _ _ _ (Nat.le_refl _) h0 hc
  rw [show n + (l.length - n) = l.toArray.size from by simp; omega] at this
  exact this
end
end Go.Proofs.YtmlpfbffecdepaaGreatDoor
