/- Prices add up, for whatever stream. -/
import Derived.Test.YtihcmifikbkbcaaGreatPJ
import Derived.Test.YtihcmifikbkbcaaGreatPI
import Derived.Test.YtihcmifikbkbcaaGreatPK
namespace Go.Proofs.YtihcmifikbkbcaaGreat
set_option linter.unusedVariables false
open Go.RowKit
theorem Lw.with_ {w W : World} {bs K : Nat} {H H' : Frz} (h : Lw w bs K H W) (hi : H'.In W) (ha : H' bs = none) : Lw w bs K H' W := ⟨h.st, h.bel, h.le, hi, ha⟩
set_option maxHeartbeats 1000000 in
theorem totN_any (H : Frz) (A : Option Addr) (cap : Nat) (l : List Nat) (w : World) (hH : H.In w) (hR : Rw H A 1 fN l) (hb : l.sum ≤ 1000000000000000) (hl : l.length ≤ 1000000) :
    Calls Tryz.prog 11 #[.slice A l.length cap] w fun e w' => e = .returned (.int .i64 (l.sum : Nat)) ∧ w' = w := by
  have HH := Lib.hid hH
  have HR := Lib.hid hR
  clear hH hR
  go_enter Tryz.func11, Tryz.ntmps11
  go_wp2_with fail
  go_loop [3, 8] (fun s t => ∃ i : Nat, i ≤ l.length ∧ t = .int .i64 i ∧ s = .int .i64 ((l.take i).sum : Nat)) (fun _ t => l.length - (intOf t).toNat)
  case atStart => exact ⟨0, by omega, rfl, rfl⟩
  case round =>
    obtain ⟨i, hi, rfl, rfl⟩ := hrel
    by_cases hlt : i < l.length
    · obtain ⟨b, off, hA, hbl, hc0⟩ := HR.out.at_ HH.out hlt (by omega)
      subst hA
      have c0 : w.cell? ⟨b, off + i, none⟩ = some (.int .i64 (l[i] : Nat)) := by simpa [fN] using hc0 0 (by omega)
      have hs := Hb.sum_take_succ hlt
      have hs2 := Hb.sum_take_le l (i + 1)
      have hlt2 : (i : Int) < l.length := by omega
      have HS : Hid (((l.take (i + 1)).sum : Int) = ((l.take i).sum : Int) + (l[i] : Int)) := by show _ = _; omega
      clear hc0
      generalize l[i] = z at *
      generalize (l.take i).sum = s0 at *
      go_wp2_with fail
      go_round
      case rel => exact ⟨i + 1, by omega, by go_num, by rw [HS.out]⟩
      case measure => simp [intOf]; omega
    · have hie : i = l.length := by omega
      subst hie
      rw [List.take_length]
      go_wp2_with fail
      go_ret
      exact ⟨rfl, rfl⟩
theorem priceOk_check {ds : List OfD} {xs : List ItD} {ship at_ : Int} (h : priceOk ds xs ship at_ = true) : checkB ds xs ship at_ = true := by
  unfold priceOk at h
  simp only [Bool.and_eq_true] at h
  exact h.1.1
/-- What is so of a price. -/
theorem end_law {ds : List OfD} {xs : List ItD} {ship at_ : Int} (h : priceOk ds xs ship at_ = true) :
    leL (endS ds xs ship).left (startS xs ship.toNat).left ∧ (endS ds xs ship).left.sum + (endS ds xs ship).ship + ((endT ds xs ship).map Prod.snd).sum = (startS xs ship.toNat).left.sum + ship.toNat ∧ (endT ds xs ship).length = ds.length := by
  obtain ⟨hok, hbd, hs0, hs1⟩ := checkB_ok (priceOk_check h)
  have h1 := applyAll_le (xs := xs) (os := ordO ds) (s := startS xs ship.toNat) (by simp [startS]) (fun o ho hk => ((hok o ((ordO_perm ds).mem_iff.1 ho)).k1 hk).2)
  refine ⟨h1.1, h1.2, ?_⟩
  unfold endT
  rw [takenAll_len]
  exact (ordO_perm ds).length_eq
set_option maxHeartbeats 8000000 in
set_option maxRecDepth 100000 in
theorem pricesAddUp_walk (a0 : Option Addr) (len0 cap0 : Nat) (z0 : List Int) (w : World) (w0 : IsRow .i64 w a0 len0 cap0 z0) :
    Calls Tryz.prog 3 #[.slice a0 len0 cap0] w fun e w' => e = .returned (.bool true) ∧ Below w.heap.size w w' := by
  have L := Lw.new w0
  go_enter Tryz.func3, Tryz.ntmps3
  go_wp2_with fail
  refine (L.offers (by omega) 4 (by omega)).mono ?_
  rintro e W1 ⟨v, H1, ds, rfl, -, C, hdl, hda⟩
  obtain ⟨A, cap, H2, hv, hlec, q1, q2, hR, q3⟩ := Orow.freezeN C.row H1
  have hle2 := q2 C.2.2.1
  have L2 : Lw w w.heap.size 400 H2 W1 := (C.lw.more (by omega)).with_ (q1 C.lw.fin) (by rw [q3 _ (fun e => by have := (Orow.lt C.row e).1; have := C.2.2.2.1; omega)]; exact C.lw.apart)
  have HL2 := Lib.hid L2
  have HR2 := Lib.hid hR
  have HDS2 := Lib.hid (hda.le hle2)
  subst hv
  clear L C hda q1 q2 q3 hR L2 w0 hle2
  go_wp2_with fail
  refine (HL2.out.basket (by omega)).mono ?_
  rintro e W2 ⟨B, vb, ship, H3, xs, rfl, hle3, C, hxl, hxa⟩
  obtain ⟨Ab, capb, H4, hvb, hlecb, q1, q2, hRb, q3⟩ := Orow.freezeN C.row H3
  have hle4 := q2 C.2.2.1
  have L4 : Lw w w.heap.size 500 H4 W2 := (C.lw.more (by omega)).with_ (q1 C.lw.fin) (by rw [q3 _ (fun e => by have := (Orow.lt C.row e).1; have := C.2.2.2.1; omega)]; exact C.lw.apart)
  have HL4 := Lib.hid L4
  have HR4 := Lib.hid (HR2.out.le (hle3.trans hle4))
  have HDS4 := Lib.hid (HDS2.out.le (hle3.trans hle4))
  have HRX4 := Lib.hid hRb
  have HXS4 := Lib.hid (hxa.le hle4)
  subst hvb
  clear C hxa q1 q2 q3 hRb L4 hle3 hle4 HL2 HR2 HDS2
  have hne := HL4.out.lt
  have hIn : Ints (W2.alloc (.cells #[.int .i64 0, .int .i64 49, .int .i64 60] 3)) (some ⟨W2.heap.size, 0, none⟩) [0, 49, 60] := Ints.of_row (heap_at rfl) rfl
  have HIn := Lib.hid hIn
  clear hIn
  go_wp2_with fail
  refine ((HL4.out.alloc _).pick _ _ [0, 49, 60] HIn.out (fun b off e => by injection e with e; injection e with e1 e2; omega) (by simp) (by simp) (by omega)).mono ?_
  rintro e W3 ⟨at_, rfl, -, L5, -, -⟩
  obtain ⟨H5, hle5, hb5, hin5⟩ := L5.fin.put (.cells #[.slice Ab xs.length capb, .int .i64 ship] 30)
  have HB5 := Lib.hid (L5.bel.trans ((new1 (w := W3) (.cells #[.slice Ab xs.length capb, .int .i64 ship] 30)).mono L5.bel.size))
  have HIN5 := Lib.hid hin5
  have HBK5 := Lib.hid hb5
  have HR5 := Lib.hid (HR4.out.le hle5)
  have HDS5 := Lib.hid (HDS4.out.le hle5)
  have HRX5 := Lib.hid (HRX4.out.le hle5)
  have HXS5 := Lib.hid (HXS4.out.le hle5)
  clear L5 hle5 hb5 hin5 HR4 HDS4 HRX4 HXS4 HL4 HIn hne
  go_upto_region 3 with (fail)
  generalize W3.alloc (.cells #[.slice Ab xs.length capb, .int .i64 ship] 30) = W4 at *
  generalize W3.heap.size = bb at *
  have b0 := cell_h (HIN5.out _ _ HBK5.out) 0 (v := .slice Ab xs.length capb) rfl
  have b1 := cell_h (HIN5.out _ _ HBK5.out) 1 (v := .int .i64 ship) rfl
  have HPR := Lib.hid (Price_any H5 A Ab cap capb ds xs ship at_ W4 HIN5.out HR5.out HDS5.out (by omega) hlec HRX5.out HXS5.out (by omega) hlecb)
  go_wp2_with fail
  refine HPR.out.mono ?_
  rintro e W5 ⟨hres, hb5⟩
  have HIN6 := Lib.hid (HIN5.out.below hb5)
  have HNO5 : Hid (∀ b, W4.heap.size ≤ b → H5 b = none) := fun b hb => HIN5.out.none_ hb
  have HB6 := Lib.hid (HB5.out.trans (hb5.mono HB5.out.size))
  clear HPR b0 b1 HB5 HIN5 hb5
  rcases hres with ⟨-, c, hc, rfl⟩ | ⟨hok, v, rfl, hpr⟩
  · have hc0 : (c != 0) = true := by simpa using hc
    unfold zeroPr
    go_wp2_with fail
    refine (offers_any _).mono ?_
    rintro e W6 ⟨rfl, hw⟩
    obtain rfl := hw.symm
    go_wp2_with fail
    go_ret
    exact ⟨rfl, HB6.out.trans ((new1 _).mono HB6.out.size)⟩
  · obtain ⟨hl1, hl2, hl3⟩ := end_law hok
    obtain ⟨hofk, hbd, hs0, hs1⟩ := checkB_ok (priceOk_check hok)
    obtain ⟨n, rfl⟩ := Int.eq_ofNat_of_zero_le hs0
    rw [Int.toNat_natCast] at hl1 hl2
    obtain ⟨vl, vc, rfl, hOl, hOc, hap⟩ := hpr
    obtain ⟨Al, capl, H6, hvl, hlel, q1, q2, hRl, q3⟩ := Orow.freezeN hOl H5
    obtain ⟨Ac, capc, H7, hvc, hlecc, r1, r2, hRc, r3⟩ := Orow.freezeN hOc H6
    have h56 := q2 (fun g hg => HNO5.out g (Orow.lt hOl hg).1)
    have h67 := r2 (fun g hg => by
      have h1 := HNO5.out g (Orow.lt hOc hg).1
      rw [q3 g (fun e => ?_)]
      · exact h1
      · rcases hap with h | h | h
        · rw [h] at e; cases e
        · rw [h] at hg; cases hg
        · exact h (e.trans hg.symm))
    obtain ⟨H8, h78, hb8, hin8⟩ := (r1 (q1 HIN6.out)).put (.cells #[vl, .int .i64 ((endS ds xs (n : Int)).ship : Nat), vc, .int .i64 (totS (endS ds xs (n : Int)) : Nat)] 35)
    have h58 := h56.trans (h67.trans h78)
    have HB8 := Lib.hid (HB6.out.trans ((new1 (w := W5) (.cells #[vl, .int .i64 ((endS ds xs (n : Int)).ship : Nat), vc, .int .i64 (totS (endS ds xs (n : Int)) : Nat)] 35)).mono HB6.out.size))
    have HIN8 := Lib.hid hin8
    subst hvl hvc
    have HPB := Lib.hid hb8
    have HBK := Lib.hid (h58 _ _ HBK5.out)
    have HRX := Lib.hid (HRX5.out.le h58)
    have HRL := Lib.hid (hRl.le (h67.trans h78))
    have HRC := Lib.hid (hRc.le h78)
    have HIB := Lib.hid hbd
    have HLE := Lib.hid hl1
    have hll := hl1.len
    have hsl : (startS xs n).left.length = xs.length := by simp [startS]
    have HSA : Hid (∀ i (h : i < (startS xs n).left.length) (h2 : i < xs.length), (((startS xs n).left[i] : Nat) : Int) = xs[i].cents * xs[i].many ∧ (startS xs n).left[i] ≤ 1000000000) := by
      intro i h h2
      have hib := hbd _ (List.getElem_mem h2)
      have hm := mul_bd hib.1 hib.2.1 hib.2.2.1 hib.2.2.2
      have he : (startS xs n).left[i] = (xs[i].cents * xs[i].many).toNat := by simp [startS]
      rw [he]
      omega
    have hTS : Hid ((totS (endS ds xs (n : Int)) : Nat) = (endS ds xs (n : Int)).ship + (endS ds xs (n : Int)).left.sum) := rfl
    have hsb : (startS xs n).left.sum ≤ 4000000000 := by
      have h1 := Hb.sum_le (b := 1000000000) (ws := (startS xs n).left) (fun z hz => by
        obtain ⟨i, hi, rfl⟩ := List.getElem_of_mem hz
        exact (HSA.out i hi (by omega)).2)
      have h2 : (startS xs n).left.length * 1000000000 ≤ 4 * 1000000000 := Nat.mul_le_mul_right _ (by omega)
      omega
    clear HR5 HDS5 HXS5 HIN6 HB6 hok hofk hbd hs0 hOl hOc hap q1 q2 q3 r1 r2 r3 hRl hRc h56 h67 h78 h58 hb8 hin8 HBK5 HRX5 HNO5 hl1
    generalize endS ds xs (n : Int) = sE at *
    generalize endT ds xs (n : Int) = tk at *
    generalize (startS xs n).left = l0 at *
    generalize totS sE = tot at *
    generalize sE.left = lE at *
    generalize sE.ship = sh at *
    have HLX : Hid (lE.length = xs.length) := by show _ = _; omega
    have HL0 := Lib.hid hsl
    have HL3 := Lib.hid hl3
    have HSUM := Lib.hid hl2
    clear hll hsl hl3 hl2
    go_upto_region 4 with (fail)
    generalize W5.alloc (.cells #[.slice Al lE.length capl, .int .i64 (sh : Nat), .slice Ac tk.length capc, .int .i64 (tot : Nat)] 35) = W6 at *
    generalize W5.heap.size = pb at *
    have hk := HIN8.out _ _ HPB.out
    have p0 := cell_h hk 0 (v := .slice Al lE.length capl) rfl
    have hk2 := HIN8.out _ _ HBK.out
    have b0 := cell_h hk2 0 (v := .slice Ab xs.length capb) rfl
    have b1 := cell_h hk2 1 (v := .int .i64 (n : Int)) rfl
    clear hk hk2
    have q6 : ((lE.length : Int) != (xs.length : Int)) = false := by have := HLX.out; simp; omega
    go_wp2_with fail
    clear q6
    go_loopw [9, 46] (fun s t wr => ∃ i : Nat, i ≤ xs.length ∧ t = .int .i64 i ∧ s = .int .i64 ((n + (l0.take i).sum : Nat) : Int) ∧ Hid (H8.In wr) ∧ Hid (Below w.heap.size w wr)) (fun _ t _ => xs.length - (intOf t).toNat)
    case atStart => exact ⟨0, by omega, rfl, by simp, HIN8, HB8⟩
    case round =>
      obtain ⟨i, hi, rfl, rfl, J, JB⟩ := hrel
      clear HIN8 HB8 p0 b0 b1
      by_cases hlt : i < xs.length
      · have hi0 : i < l0.length := by have := HL0.out; omega
        have hiE : i < lE.length := by have := HLX.out; omega
        obtain ⟨bx, offx, hA, _, hcx⟩ := HRX.out.at_ J.out hlt (by omega)
        have x0 : wr.cell? ⟨bx, offx + i * 4, none⟩ = some (.string xs[i].key) := hcx 0 (by omega)
        have x1 : wr.cell? ⟨bx, offx + i * 4 + 1, none⟩ = some (.int .i64 xs[i].cents) := hcx 1 (by omega)
        have x2 : wr.cell? ⟨bx, offx + i * 4 + 2, none⟩ = some (.int .i64 xs[i].many) := hcx 2 (by omega)
        have x3 : wr.cell? ⟨bx, offx + i * 4 + 3, none⟩ = some (.slice xs[i].ta xs[i].tags.length xs[i].tc) := hcx 3 (by omega)
        have hib := HIB.out _ (List.getElem_mem hlt)
        obtain ⟨hpm, hpb⟩ := HSA.out i hi0 hlt
        have hle := HLE.out.at_ i hiE hi0
        have hs := Hb.sum_take_succ hi0
        have hs2 := Hb.sum_take_le l0 (i + 1)
        have HS : Hid ((n + (l0.take (i + 1)).sum : Nat) = (n + (l0.take i).sum) + l0[i]) := by show _ = _; omega
        obtain ⟨bl, offl, hAl, _, hcl⟩ := HRL.out.at_ J.out hiE (by omega)
        have HCL : Hid (∀ W, H8.In W → W.cell? ⟨bl, offl + i, none⟩ = some (.int .i64 (lE[i] : Nat))) := by
          intro W hW
          obtain ⟨bl', offl', hAl', _, hcl'⟩ := HRL.out.at_ hW hiE (by omega)
          rw [hAl] at hAl'
          simp only [Option.some.injEq, Addr.mk.injEq] at hAl'
          obtain ⟨rfl, rfl, _⟩ := hAl'
          simpa [fN] using hcl' 0 (by omega)
        have hlt2 : (i : Int) < xs.length := by omega
        have hiE2 : (i : Int) < lE.length := by omega
        have hsb2 : n + (l0.take i).sum + l0[i] ≤ 1004000000000 := by omega
        clear hcx hcl hs hs2
        subst hA hAl
        generalize n + (l0.take i).sum = su at *
        generalize l0[i] = z at *
        generalize lE[i] = y at *
        generalize xs[i] = x at *
        have J2 := Lib.hid (J.out.alloc (.cells #[.string x.key, .int .i64 x.cents, .int .i64 x.many, .slice x.ta x.tags.length x.tc] 42))
        have JB2 := Lib.hid (JB.out.trans ((new1 (w := wr) (.cells #[.string x.key, .int .i64 x.cents, .int .i64 x.many, .slice x.ta x.tags.length x.tc] 42)).mono JB.out.size))
        have c7 := heap_alloc_new wr (.cells #[.string x.key, .int .i64 x.cents, .int .i64 x.many, .slice x.ta x.tags.length x.tc] 42)
        have C7 := Lib.hid c7
        clear c7 J JB
        go_upto_region 12 with (fail)
        generalize wr.alloc (.cells #[.string x.key, .int .i64 x.cents, .int .i64 x.many, .slice x.ta x.tags.length x.tc] 42) = W7 at *
        generalize wr.heap.size = xb at *
        clear x0 x1 x2 x3
        have x1 : W7.cell? ⟨xb, 1, none⟩ = some (.int .i64 x.cents) := cell_h C7.out 1 rfl
        have x2 : W7.cell? ⟨xb, 2, none⟩ = some (.int .i64 x.many) := cell_h C7.out 2 rfl
        have y0 := HCL.out W7 J2.out
        have hk := J2.out _ _ HPB.out
        have p0 := cell_h hk 0 (v := .slice (some ⟨bl, offl, none⟩) lE.length capl) rfl
        have hmw : IntKind.i64.wrap (x.cents * x.many) = (z : Int) := by rw [← hpm]; exact IntWalk.i64_in _ (by omega)
        have hpw : Hid ((z : Int) = x.cents * x.many) := hpm
        clear hk hpm
        have hyn : ¬ (y : Int) < 0 := by omega
        have hyz : ¬ (z : Int) < (y : Int) := by omega
        have q1 : decide ((y : Int) < 0) = false := decide_eq_false (by omega)
        have q3 : decide ((z : Int) < (y : Int)) = false := decide_eq_false (by omega)
        go_upto_region 13 with (fail)
        go_quiet (fail)
        have J3 : Hid (H8.In (W7.drewN nq)) := J2.out.drewN nq
        have JB3 := Lib.hid (below_drewN JB2.out nq)
        generalize World.drewN _ nq = W8 at J3 JB3 ⊢
        clear x1 x2 y0 p0 hmw q1 q3 hyn hyz J2 JB2
        go_wp2_with fail
        go_roundw
        case rel => exact ⟨i + 1, by omega, by go_num, by rw [HS.out, Int.natCast_add], J3, JB3⟩
        case measure => simp [intOf]; omega
      · have hie : i = xs.length := by omega
        subst hie
        rw [List.take_of_length_le (by have := HL0.out; omega)]
        have hk := J.out _ _ HPB.out
        have p2 := cell_h hk 2 (v := .slice Ac tk.length capc) rfl
        clear hk
        obtain ⟨T, hT⟩ : ∃ T, T = tk.map Prod.snd := ⟨_, rfl⟩
        have htl : T.length = tk.length := by rw [hT]; simp
        have HTA : Hid (∀ i (h : i < T.length) (h2 : i < tk.length), tk[i].2 = T[i]) := by
          intro i h h2
          subst hT
          simp
        have HTL := Lib.hid htl
        have hS := HSUM.out
        rw [← hT] at hS
        have HS2 := Lib.hid hS
        have htb : T.sum ≤ n + l0.sum := by omega
        have hnb : n + l0.sum ≤ 1004000000000 := by omega
        have htk4 : tk.length ≤ 4 := by have := HL3.out; omega
        clear hT htl hS HSUM
        go_wp2_with fail
        clear p2
        go_loopw [9, 81] (fun s t wr => ∃ i : Nat, i ≤ tk.length ∧ t = .int .i64 i ∧ s = .int .i64 (((n + l0.sum : Nat) : Int) - ((T.take i).sum : Nat)) ∧ Hid (H8.In wr) ∧ Hid (Below w.heap.size w wr)) (fun _ t _ => tk.length - (intOf t).toNat)
        case atStart => exact ⟨0, by omega, rfl, by simp, J, JB⟩
        case round =>
          clear J JB
          obtain ⟨i, hi, rfl, rfl, J, JB⟩ := hrel
          by_cases hlt : i < tk.length
          · have hiT : i < T.length := by have := HTL.out; omega
            obtain ⟨bc, offc, hA, _, hcx⟩ := HRC.out.at_ J.out hlt (by omega)
            have x0 : wr.cell? ⟨bc, offc + i * 2, none⟩ = some (.string tk[i].1) := hcx 0 (by omega)
            have x1 : wr.cell? ⟨bc, offc + i * 2 + 1, none⟩ = some (.int .i64 (tk[i].2 : Nat)) := hcx 1 (by omega)
            rw [HTA.out i hiT hlt] at x1
            have hs := Hb.sum_take_succ hiT
            have hs2 := Hb.sum_take_le T (i + 1)
            have HS : Hid ((((n + l0.sum : Nat) : Int) - ((T.take i).sum : Nat)) - (T[i] : Nat) = ((n + l0.sum : Nat) : Int) - ((T.take (i + 1)).sum : Nat)) := by show _ = _; omega
            have hb3 : (T.take i).sum + T[i] ≤ n + l0.sum := by omega
            have hlt2 : (i : Int) < tk.length := by omega
            subst hA
            clear hcx hs hs2
            generalize (T.take i).sum = su at *
            generalize T[i] = z at *
            generalize tk[i].1 = ky at *
            have J2 := Lib.hid (J.out.alloc (.cells #[.string ky, .int .i64 (z : Nat)] 44))
            have JB2 := Lib.hid (JB.out.trans ((new1 (w := wr) (.cells #[.string ky, .int .i64 (z : Nat)] 44)).mono JB.out.size))
            have C7 := Lib.hid (heap_alloc_new wr (.cells #[.string ky, .int .i64 (z : Nat)] 44))
            clear J JB
            go_upto_region 19 with (fail)
            generalize wr.alloc (.cells #[.string ky, .int .i64 (z : Nat)] 44) = W7 at *
            generalize wr.heap.size = xb at *
            clear x0 x1
            have x1 : W7.cell? ⟨xb, 1, none⟩ = some (.int .i64 (z : Nat)) := cell_h C7.out 1 rfl
            generalize hns_ : n + l0.sum = ns at *
            have HNS := Lib.hid hns_
            clear hns_
            have hw : IntKind.i64.wrap ((ns : Int) - (su : Nat) - (z : Nat)) = (ns : Int) - (su : Nat) - (z : Nat) := IntWalk.i64_in _ (by omega)
            have hz : ¬ (z : Int) < 0 := by omega
            go_wp2_with fail
            go_roundw
            case rel => exact ⟨i + 1, by omega, by go_num, by rw [HS.out, HNS.out], J2, JB2⟩
            case measure => simp [intOf]; omega
          · have hie : i = tk.length := by omega
            subst hie
            rw [List.take_of_length_le (by have := HTL.out; omega)]
            have hk := J.out _ _ HPB.out
            have p0 := cell_h hk 0 (v := .slice Al lE.length capl) rfl
            have p1 := cell_h hk 1 (v := .int .i64 (sh : Nat)) rfl
            have p2 := cell_h hk 2 (v := .slice Ac tk.length capc) rfl
            have p3 := cell_h hk 3 (v := .int .i64 (tot : Nat)) rfl
            clear hk
            have hfin : (((n + l0.sum : Nat) : Int) - (T.sum : Nat)) = (tot : Int) := by have := HS2.out; have := hTS.out; omega
            rw [hfin]
            have hlc : ((tk.length : Int) == (ds.length : Int)) = true := by have := HL3.out; simp; omega
            have hsg : decide ((0 : Int) ≤ (sh : Int)) = true := decide_eq_true (by omega)
            have htt : IntKind.i64.wrap ((lE.sum : Int) + (sh : Int)) = (tot : Int) := by rw [show (lE.sum : Int) + (sh : Int) = (tot : Int) from by have := hTS.out; omega]; exact IntWalk.i64_in _ (by have := hTS.out; have := HS2.out; omega)
            have HTT : Hid (lE.sum ≤ 1000000000000000 ∧ lE.length ≤ 1000000) := by have := HS2.out; have := HLX.out; exact ⟨by omega, by omega⟩
            go_upto_region 23 with (fail)
            go_quiet (first | (go_at_call 10; exact Calls.quiet_of_same ((offers_any _).mono fun e w' h => ⟨h.1, h.2.symm⟩)) | (go_at_call 11; exact Calls.quiet_of_same (totN_any H8 Al capl lE _ (J.out.drewN _) HRL.out HTT.out.1 HTT.out.2)))
            go_wp2_with fail
            go_ret
            exact ⟨rfl, below_drewN JB.out nq⟩
end Go.Proofs.YtihcmifikbkbcaaGreat
