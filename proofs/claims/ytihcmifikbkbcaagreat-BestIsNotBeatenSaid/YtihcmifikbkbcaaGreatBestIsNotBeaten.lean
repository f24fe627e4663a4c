/- The best choice is not beaten, for whatever stream. -/
import Derived.Test.YtihcmifikbkbcaaGreatPL
import Derived.Test.YtihcmifikbkbcaaGreatPJ
import Derived.Test.YtihcmifikbkbcaaGreatPK
namespace Go.Proofs.YtihcmifikbkbcaaGreat
set_option linter.unusedVariables false
open Go.RowKit
theorem Lw.with_ {w W : World} {bs K : Nat} {H H' : Frz} (h : Lw w bs K H W) (hi : H'.In W) (ha : H' bs = none) : Lw w bs K H' W := ⟨h.st, h.bel, h.le, hi, ha⟩
set_option maxHeartbeats 8000000 in
set_option maxRecDepth 100000 in
theorem bestIsNotBeaten_walk (a0 : Option Addr) (len0 cap0 : Nat) (z0 : List Int) (w : World) (w0 : IsRow .i64 w a0 len0 cap0 z0) :
    Calls Tryz.prog 4 #[.slice a0 len0 cap0] w fun e w' => e = .returned (.bool true) ∧ Below w.heap.size w w' := by
  obtain ⟨i0, hi0, hz0, hz1, hz2⟩ := info_parts infoInt
  have L := Lw.new w0
  go_enter Tryz.func4, Tryz.ntmps4
  go_wp2_with fail
  refine (L.offers (by omega) 6 (by omega)).mono ?_
  rintro e W1 ⟨v, H1, ds, rfl, -, C, hdl, hda⟩
  obtain ⟨A, cap, H2, hv, hlec, q1, q2, hR, q3⟩ := Orow.freezeN C.row H1
  have hle2 := q2 C.2.2.1
  have L2 : Lw w w.heap.size 600 H2 W1 := (C.lw.more (by omega)).with_ (q1 C.lw.fin) (by rw [q3 _ (fun e => by have := (Orow.lt C.row e).1; have := C.2.2.2.1; omega)]; exact C.lw.apart)
  have HL2 := Lib.hid L2
  have HR2 := Lib.hid hR
  have HDS2 := Lib.hid (hda.le hle2)
  subst hv
  clear L C hda q1 q2 q3 hR L2 w0 hle2
  go_wp2_with fail
  refine (HL2.out.basket (by omega)).mono ?_
  rintro e W2 ⟨B, vb, ship, H3, xs, rfl, hle3, C, hxl, hxa⟩
  obtain ⟨Ab, capb, H4, hvb, hlecb, q1, q2, hRb, q3⟩ := Orow.freezeN C.row H3
  have hle4 := q2 C.2.2.1
  have L4 : Lw w w.heap.size 800 H4 W2 := (C.lw.more (by omega)).with_ (q1 C.lw.fin) (by rw [q3 _ (fun e => by have := (Orow.lt C.row e).1; have := C.2.2.2.1; omega)]; exact C.lw.apart)
  have HL4 := Lib.hid L4
  have HR4 := Lib.hid (HR2.out.le (hle3.trans hle4))
  have HDS4 := Lib.hid (HDS2.out.le (hle3.trans hle4))
  have HRX4 := Lib.hid hRb
  have HXS4 := Lib.hid (hxa.le hle4)
  subst hvb
  clear C hxa q1 q2 q3 hRb L4 hle3 hle4 HL2 HR2 HDS2
  have hne := HL4.out.lt
  have hIn : Ints (W2.alloc (.cells #[.int .i64 0, .int .i64 49, .int .i64 60] 3)) (some ⟨W2.heap.size, 0, none⟩) [0, 49, 60] := Ints.of_row (heap_at rfl) rfl
  have HIn := Lib.hid hIn
  clear hIn
  go_wp2_with fail
  refine ((HL4.out.alloc _).pick _ _ [0, 49, 60] HIn.out (fun b off e => by injection e with e; injection e with e1 e2; omega) (by simp) (by simp) (by omega)).mono ?_
  rintro e W3 ⟨at_, rfl, -, L5, -, -⟩
  obtain ⟨H45, hle45, hs5, L6⟩ := L5.put (.cells #[.slice A ds.length cap] 26)
  obtain ⟨H5, hle55, hb5, L7⟩ := L6.put (.cells #[.slice Ab xs.length capb, .int .i64 ship] 30)
  have e2 : (W3.alloc (.cells #[.slice A ds.length cap] 26)).heap.size = W3.heap.size + 1 := by simp
  rw [e2] at hb5
  have hle5 := hle45.trans hle55
  have HL5 := Lib.hid L7
  have HBK5 := Lib.hid hb5
  have HSB5 := Lib.hid (hle55 _ _ hs5)
  have HR5 := Lib.hid (HR4.out.le hle5)
  have HDS5 := Lib.hid (HDS4.out.le hle5)
  have HRX5 := Lib.hid (HRX4.out.le hle5)
  have HXS5 := Lib.hid (HXS4.out.le hle5)
  clear L5 L6 L7 hle45 hle55 hle5 hb5 hs5 HR4 HDS4 HRX4 HXS4 HL4 HIn hne e2
  go_upto_region 3 with (fail)
  generalize (W3.alloc (.cells #[.slice A ds.length cap] 26)).alloc (.cells #[.slice Ab xs.length capb, .int .i64 ship] 30) = W4 at *
  generalize W3.heap.size = sb at *
  generalize hbb : sb + 1 = bb at *
  clear hbb
  have s0 := cell_h (HL5.out.fin _ _ HSB5.out) 0 (v := .slice A ds.length cap) rfl
  have b0 := cell_h (HL5.out.fin _ _ HBK5.out) 0 (v := .slice Ab xs.length capb) rfl
  have b1 := cell_h (HL5.out.fin _ _ HBK5.out) 1 (v := .int .i64 ship) rfl
  have HBS := Lib.hid (Best_any H5 A Ab cap capb ds xs ship at_ W4 HL5.out.fin HR5.out HDS5.out (by omega) hlec HRX5.out HXS5.out (by omega) hlecb)
  go_wp2_with fail
  refine HBS.out.mono ?_
  rintro e W5 ⟨hres, hb5⟩
  have HL6 := Lib.hid (HL5.out.call hb5)
  have HNO : Hid (∀ b, W4.heap.size ≤ b → H5 b = none) := fun b hb => HL5.out.fin.none_ hb
  clear HBS s0 b0 b1 HL5 hb5
  rcases hres with ⟨c, hc, rfl⟩ | ⟨hck, best, A6, cap6, v, H6, rfl, hle6, hin6, hR6, hpf, hbs⟩
  · have hc0 : (c != 0) = true := by simpa using hc
    unfold zeroPr
    go_wp2_with fail
    refine (offers_any _).mono ?_
    rintro e W6 ⟨rfl, hw⟩
    obtain rfl := hw.symm
    go_wp2_with fail
    go_ret
    exact ⟨rfl, HL6.out.bel.trans ((new1 _).mono HL6.out.bel.size)⟩
  · have hbm : best.Sublist (usF ds xs ship at_) := by
      obtain ⟨mb, -, e⟩ := hbs.mem
      rw [e]
      exact selM_sub _ _
    have hbP := Places.us hbm
    have hbl : best.length ≤ 6 := by have := hbP.length_le; simp at this; omega
    have HLTB : Hid (∀ i ∈ best, i < ds.length) := hbP.lt
    have HOKB := Lib.hid (priceOk_sel hck hbm hbs.tog)
    have HBL := Lib.hid (fun (l : List Nat) (hl : Places ds l) (hk : priceOk (selO ds l) xs ship at_ = true) => best_law hbs hl hk)
    obtain ⟨Al, cl, Ac, cc, rfl, hRl, hRc⟩ := hpf
    obtain ⟨H8, hle8, hp8, L8⟩ := HL6.out.put (.cells #[.slice Al (endS (selO ds best) xs ship).left.length cl, .int .i64 ((endS (selO ds best) xs ship).ship : Nat), .slice Ac (endT (selO ds best) xs ship).length cc, .int .i64 (totS (endS (selO ds best) xs ship) : Nat)] 35)
    have HL8 := Lib.hid L8
    have HP8 := Lib.hid hp8
    obtain ⟨H7, hH7⟩ : ∃ H7, H7 = H8.or H6 := ⟨_, rfl⟩
    have hin7 : H7.In (W5.alloc (.cells #[.slice Al (endS (selO ds best) xs ship).left.length cl, .int .i64 ((endS (selO ds best) xs ship).ship : Nat), .slice Ac (endT (selO ds best) xs ship).length cc, .int .i64 (totS (endS (selO ds best) xs ship) : Nat)] 35)) := by rw [hH7]; exact Frz.or_in L8.fin (hin6.alloc _)
    have HIN7 := Lib.hid hin7
    have hl87 : H8.Le H7 := by rw [hH7]; exact Frz.le_or_left _ _
    have hl67 : H6.Le H7 := by rw [hH7]; exact Frz.le_or_right L8.fin (hin6.alloc _)
    have HL57 := Lib.hid (hle8.trans hl87)
    have HL58 := Lib.hid hle8
    have HP7 := Lib.hid (hl87 _ _ hp8)
    have HRB7 := Lib.hid (hR6.le hl67)
    have HBK7 := Lib.hid (hle8.trans hl87 _ _ HBK5.out)
    have HSB7 := Lib.hid (hle8.trans hl87 _ _ HSB5.out)
    have HPF7 : Hid (PricedF H7 (selO ds best) xs ship (.agg #[.slice Al (endS (selO ds best) xs ship).left.length cl, .int .i64 ((endS (selO ds best) xs ship).ship : Nat), .slice Ac (endT (selO ds best) xs ship).length cc, .int .i64 (totS (endS (selO ds best) xs ship) : Nat)])) := ⟨Al, cl, Ac, cc, rfl, hRl.le hl67, hRc.le hl67⟩
    have HTB : Hid (totS (endS (selO ds best) xs ship) = totO ds xs ship best) := rfl
    have HEL : Hid (EndOk (selO ds best) xs ship) := EndOk.of HOKB.out (by have := selO_len (ds := ds) (l := best) HLTB.out; omega) (by omega)
    clear hck hle6 hin6 hR6 hbs hbm hbP hRl hRc L8 hp8 hH7 hin7 hl87 hl67 hle8 HL6
    have HR7 := Lib.hid (HR5.out.le HL57.out)
    have HDS7 : Hid (∀ d ∈ ds, OfIn H7 d) := fun d hd => (HDS5.out d hd).le HL57.out
    have HRX7 := Lib.hid (HRX5.out.le HL57.out)
    have HXS7 : Hid (∀ x ∈ xs, ItIn H7 x) := fun x hx => (HXS5.out x hx).le HL57.out
    generalize (endS (selO ds best) xs ship).left = lE at *
    generalize (endS (selO ds best) xs ship).ship = sE at *
    generalize endT (selO ds best) xs ship = tk at *
    generalize totS (endS (selO ds best) xs ship) = tot at *
    go_upto_region 7 with (fail)
    generalize W5.alloc _ = W7 at *
    generalize W5.heap.size = pb at *
    refine wp_region_concV 11 104 (φBo W7.heap.size (.func (Fn.func 13) #[] #[.pointer (some ⟨sb, 0, none⟩)]) (.slice A6 best.length cap6) (.agg #[.slice Ab xs.length capb, .int .i64 ship]) (.int .i64 at_) (selO ds best) xs ship (priceOk (selO ds best) xs ship at_)) (BoxJ 35 9 11 10 H7 W7 (fun cs w => PrRes W7.heap.size (selO ds best) xs ship (priceOk (selO ds best) xs ship at_) (.agg cs) w)) (ET 35) (by kernel_rfl) (by kernel_rfl) (by rfl) (BoxJ.start HIN7.out _ _) (fun i x w w' _ e h => φBo_mono i x w w' e h) (fun i x w hi e h => ?_) ?_ ?_
    · have hcs : i = 10 := by
        have : i = 0 ∨ i = 1 ∨ i = 2 ∨ i = 3 ∨ i = 4 ∨ i = 5 ∨ i = 6 ∨ i = 7 ∨ i = 8 ∨ i = 9 ∨ i = 10 := by omega
        rcases this with rfl | rfl | rfl | rfl | rfl | rfl | rfl | rfl | rfl | rfl | rfl <;> first | rfl | exact absurd e (by decide)
      subst hcs
      trivial
    · intro n o hn ho a W2 L hr hsN hLs hJ hkn
      replace hsN : a.tmps.size = 104 := hsN
      have hcs : n = 0 ∨ n = 1 ∨ n = 2 ∨ n = 3 ∨ n = 4 ∨ n = 5 ∨ n = 6 ∨ n = 7 ∨ n = 8 ∨ n = 9 ∨ n = 10 := by omega
      rcases hcs with rfl | rfl | rfl | rfl | rfl | rfl | rfl | rfl | rfl | rfl | rfl
      · obtain rfl := Option.some.inj ho
        refine OpV.mono (R := fun v w' => φBo W7.heap.size (.func (Fn.func 13) #[] #[.pointer (some ⟨sb, 0, none⟩)]) (.slice A6 best.length cap6) (.agg #[.slice Ab xs.length capb, .int .i64 ship]) (.int .i64 at_) (selO ds best) xs ship (priceOk (selO ds best) xs ship at_) 0 v w' ∧ Below W2.heap.size W2 w') ?_ (fun v w' h => ⟨h.1, hJ.step (fun cs hb => PrRes.mono (ET.of hb)) h.2 (by decide) (by decide) (by decide) v, ET.of h.2⟩)
        exact ⟨hkn 10 (by decide), Below.refl _ _⟩
      · obtain rfl := Option.some.inj ho
        refine OpV.mono (R := fun v w' => φBo W7.heap.size (.func (Fn.func 13) #[] #[.pointer (some ⟨sb, 0, none⟩)]) (.slice A6 best.length cap6) (.agg #[.slice Ab xs.length capb, .int .i64 ship]) (.int .i64 at_) (selO ds best) xs ship (priceOk (selO ds best) xs ship at_) 1 v w' ∧ Below W2.heap.size W2 w') ?_ (fun v w' h => ⟨h.1, hJ.step (fun cs hb => PrRes.mono (ET.of hb)) h.2 (by decide) (by decide) (by decide) v, ET.of h.2⟩)
        exact ⟨hkn 7 (by decide), Below.refl _ _⟩
      · obtain rfl := Option.some.inj ho
        refine OpV.mono (R := fun v w' => φBo W7.heap.size (.func (Fn.func 13) #[] #[.pointer (some ⟨sb, 0, none⟩)]) (.slice A6 best.length cap6) (.agg #[.slice Ab xs.length capb, .int .i64 ship]) (.int .i64 at_) (selO ds best) xs ship (priceOk (selO ds best) xs ship at_) 2 v w' ∧ Below W2.heap.size W2 w') ?_ (fun v w' h => ⟨h.1, hJ.step (fun cs hb => PrRes.mono (ET.of hb)) h.2 (by decide) (by decide) (by decide) v, ET.of h.2⟩)
        have h1 := slotv (hkn 40 (by decide) : a.tmps.getD 40 undef = (.func (Fn.func 13) #[] #[.pointer (some ⟨sb, 0, none⟩)]))
        have h2 := slotv (hkn 41 (by decide) : a.tmps.getD 41 undef = .slice A6 best.length cap6)
        have hcc := chosen_any H7 sb A cap ds best A6 cap6 W2 hJ.inn HSB7.out HR7.out HRB7.out HLTB.out (by omega) (by omega)
        have hsz := hJ.bel.size
        clear hkn ho
        simp only [OpV, execOp]
        simp [go_sem, h1, h2]
        refine hcc.mono ?_
        rintro e w' ⟨⟨v, rfl, hO⟩, hb⟩
        exact ⟨v, rfl, hO.mono hsz, hb⟩
      · obtain rfl := Option.some.inj ho
        refine OpV.mono (R := fun v w' => φBo W7.heap.size (.func (Fn.func 13) #[] #[.pointer (some ⟨sb, 0, none⟩)]) (.slice A6 best.length cap6) (.agg #[.slice Ab xs.length capb, .int .i64 ship]) (.int .i64 at_) (selO ds best) xs ship (priceOk (selO ds best) xs ship at_) 3 v w' ∧ Below W2.heap.size W2 w') ?_ (fun v w' h => ⟨h.1, hJ.step (fun cs hb => PrRes.mono (ET.of hb)) h.2 (by decide) (by decide) (by decide) v, ET.of h.2⟩)
        have h1 := slotv (hkn 5 (by decide) : a.tmps.getD 5 undef = .pointer (some ⟨bb, 0, none⟩))
        have b0 : W2.cell? ⟨bb, 0, none⟩ = some (.slice Ab xs.length capb) := cell_h (hJ.inn _ _ HBK7.out) 0 rfl
        have b1 : W2.cell? ⟨bb, 1, none⟩ = some (.int .i64 ship) := cell_h (hJ.inn _ _ HBK7.out) 1 rfl
        clear hkn ho
        simp only [OpV, execOp]
        simp [go_sem, h1, b0, b1]
        exact ⟨rfl, Below.refl _ _⟩
      · obtain rfl := Option.some.inj ho
        refine OpV.mono (R := fun v w' => φBo W7.heap.size (.func (Fn.func 13) #[] #[.pointer (some ⟨sb, 0, none⟩)]) (.slice A6 best.length cap6) (.agg #[.slice Ab xs.length capb, .int .i64 ship]) (.int .i64 at_) (selO ds best) xs ship (priceOk (selO ds best) xs ship at_) 4 v w' ∧ Below W2.heap.size W2 w') ?_ (fun v w' h => ⟨h.1, hJ.step (fun cs hb => PrRes.mono (ET.of hb)) h.2 (by decide) (by decide) (by decide) v, ET.of h.2⟩)
        exact ⟨hkn 6 (by decide), Below.refl _ _⟩
      · obtain rfl := Option.some.inj ho
        refine OpV.mono (R := fun v w' => φBo W7.heap.size (.func (Fn.func 13) #[] #[.pointer (some ⟨sb, 0, none⟩)]) (.slice A6 best.length cap6) (.agg #[.slice Ab xs.length capb, .int .i64 ship]) (.int .i64 at_) (selO ds best) xs ship (priceOk (selO ds best) xs ship at_) 5 v w' ∧ Below W2.heap.size W2 w') ?_ (fun v w' h => ⟨h.1, hJ.step (fun cs hb => PrRes.mono (ET.of hb)) h.2 (by decide) (by decide) (by decide) v, ET.of h.2⟩)
        have hO : Orow W2 W7.heap.size 50 12 fOf (a.tmps.getD 42 undef) (selO ds best) := hkn 42 (by decide)
        obtain ⟨A9, cap9, H9, h1, hle9, p1, p2, hR9, -⟩ := hO.freeze H7
        have le := p2 (fun g hg => HIN7.out.none_ (hO.lt hg).1)
        have hin := p1 hJ.inn
        replace h1 := slotv h1
        have h2 := slotv (hkn 43 (by decide) : a.tmps.getD 43 undef = .agg #[.slice Ab xs.length capb, .int .i64 ship])
        have h3 := slotv (hkn 44 (by decide) : a.tmps.getD 44 undef = .int .i64 at_)
        have hcc := price_res H9 A9 Ab cap9 capb (selO ds best) xs ship at_ W2 hin hR9 (fun d hd => (HDS7.out d (selO_mem d hd)).le le) (by have := selO_len (ds := ds) (l := best) HLTB.out; omega) hle9 (HRX7.out.le le) (fun x hx => (HXS7.out x hx).le le) (by omega) hlecb W7.heap.size hJ.bel.size
        clear hkn ho hO p1 p2
        simp only [OpV, execOp]
        simp [go_sem, h1, h2, h3]
        exact hcc
      · obtain rfl := Option.some.inj ho
        refine OpV.mono (R := fun v w' => φBo W7.heap.size (.func (Fn.func 13) #[] #[.pointer (some ⟨sb, 0, none⟩)]) (.slice A6 best.length cap6) (.agg #[.slice Ab xs.length capb, .int .i64 ship]) (.int .i64 at_) (selO ds best) xs ship (priceOk (selO ds best) xs ship at_) 6 v w' ∧ Below W2.heap.size W2 w') ?_ (fun v w' h => ⟨h.1, hJ.step (fun cs hb => PrRes.mono (ET.of hb)) h.2 (by decide) (by decide) (by decide) v, ET.of h.2⟩)
        exact ⟨hkn 45 (by decide), Below.refl _ _⟩
      · obtain rfl := Option.some.inj ho
        refine OpV.mono (R := fun v w' => φBo W7.heap.size (.func (Fn.func 13) #[] #[.pointer (some ⟨sb, 0, none⟩)]) (.slice A6 best.length cap6) (.agg #[.slice Ab xs.length capb, .int .i64 ship]) (.int .i64 at_) (selO ds best) xs ship (priceOk (selO ds best) xs ship at_) 7 v w' ∧ Below W2.heap.size W2 w') ?_ (fun v w' h => ⟨h.1, hJ.step (fun cs hb => PrRes.mono (ET.of hb)) h.2 (by decide) (by decide) (by decide) v, ET.of h.2⟩)
        obtain ⟨u, x, h1, hu, hx⟩ : TupRes W7.heap.size (selO ds best) xs ship (priceOk (selO ds best) xs ship at_) (a.tmps.getD 39 undef) W2 := hkn 39 (by decide)
        replace h1 := slotv h1
        clear hkn ho
        simp only [OpV, execOp]
        simp [go_sem, h1]
        exact ⟨hu, Below.refl _ _⟩
      · obtain rfl := Option.some.inj ho
        refine OpV.mono (R := fun v w' => φBo W7.heap.size (.func (Fn.func 13) #[] #[.pointer (some ⟨sb, 0, none⟩)]) (.slice A6 best.length cap6) (.agg #[.slice Ab xs.length capb, .int .i64 ship]) (.int .i64 at_) (selO ds best) xs ship (priceOk (selO ds best) xs ship at_) 8 v w' ∧ Below W2.heap.size W2 w') ?_ (fun v w' h => ⟨h.1, hJ.step (fun cs hb => PrRes.mono (ET.of hb)) h.2 (by decide) (by decide) (by decide) v, ET.of h.2⟩)
        obtain ⟨u, x, h1, hu, hx⟩ : TupRes W7.heap.size (selO ds best) xs ship (priceOk (selO ds best) xs ship at_) (a.tmps.getD 39 undef) W2 := hkn 39 (by decide)
        replace h1 := slotv h1
        clear hkn ho
        simp only [OpV, execOp]
        simp [go_sem, h1]
        exact ⟨hx, Below.refl _ _⟩
      · obtain rfl := Option.some.inj ho
        refine OpV.mono (R := fun v w' => φBo W7.heap.size (.func (Fn.func 13) #[] #[.pointer (some ⟨sb, 0, none⟩)]) (.slice A6 best.length cap6) (.agg #[.slice Ab xs.length capb, .int .i64 ship]) (.int .i64 at_) (selO ds best) xs ship (priceOk (selO ds best) xs ship at_) 9 v w' ∧ Below W2.heap.size W2 w') ?_ (fun v w' h => ⟨h.1, hJ.new h.2 (mem_ready.1 hr).1 (by decide) v, ET.of h.2⟩)
        clear hkn ho
        simp only [OpV, execOp]
        simp [go_sem]
        exact ⟨⟨W2.heap.size, _, rfl, hJ.bel.size, heap_alloc_new _ _, rfl⟩, new1 _⟩
      · obtain rfl := Option.some.inj ho
        obtain ⟨b, c, h1, hb0, hbc, hcs⟩ : BoxP 35 W7.heap.size 4 (a.tmps.getD 11 undef) W2 := hkn 11 (by decide)
        have hu : PrRes W7.heap.size (selO ds best) xs ship (priceOk (selO ds best) xs ship at_) (a.tmps.getD 46 undef) W2 := hkn 46 (by decide)
        have h9 : L.getD 9 false = true := by
          obtain ⟨_, o', ho', hall⟩ := mem_ready.1 hr
          obtain rfl := Option.some.inj ho'
          exact hall { on := 9, ground := Ground.data } (by simp) rfl
        have hbn := HIN7.out.none_ hb0
        obtain ⟨cs, hcs2, hz, hone⟩ := hu.cells
        refine OpV.store_whole 35 (.tmp 11) (.tmp 46) rfl b h1 cs hcs2 hbc (by omega) (by rw [hz]; kernel_rfl) hone ?_
        intro w' hg hsz hn
        have het := ET.store hbc (by omega) hg hn
        exact ⟨trivial, hJ.store h1 hb0 h9 (by decide) hbn hg hn (by rw [← hcs2]; exact hu.mono het) undef, het⟩
    · intro yv W9 L9 hL9 hW9 hgt hφ
      have e8 : ErRes (priceOk (selO ds best) xs ship at_) (yv 8) := (hφ 8 (by omega)).resolve_right (fun c => (show ¬ ((some 47 : Option Nat) = none) from nofun) c.1)
      obtain ⟨hI9, hb9, hst⟩ := hW9
      obtain ⟨-, qb, cs, hab, hq1, hq2, hG⟩ := hst (hL9 10 (by omega))
      have e9 : yv 9 = .pointer (some ⟨qb, 0, none⟩) := (hgt 9 11 rfl).symm.trans hab
      rw [HOKB.out] at e8 hG
      obtain ⟨c0, h8, hc0⟩ := e8
      have hc0 : c0 = 0 := hc0.2 rfl
      subst hc0
      rcases hG with ⟨h, -⟩ | ⟨-, H', hn', hin', hz', hpf⟩
      · cases h
      clear hgt hab hst hL9 hφ
      simp only [List.drop_succ_cons, List.drop_zero, List.take_succ_cons, List.take_zero, putAll, Nat.reduceAdd, h8, e9]
      clear h8 e9
      generalize yv 0 = y0
      generalize yv 1 = y1
      generalize yv 2 = y2
      generalize yv 3 = y3
      generalize yv 4 = y4
      generalize yv 5 = y5
      generalize yv 6 = y6
      generalize yv 7 = y7
      generalize yv 10 = y10
      obtain ⟨H79, hH79⟩ : ∃ H79, H79 = H7.or H' := ⟨_, rfl⟩
      have hin9 : H79.In W9 := by rw [hH79]; exact Frz.or_in hI9 hin'
      have hpf9 := hpf.le (show H'.Le H79 by rw [hH79]; exact Frz.le_or_right hI9 hin')
      have hpp9 := HPF7.out.le (show H7.Le H79 by rw [hH79]; exact Frz.le_or_left _ _)
      obtain ⟨qa, qb2, qc, rfl⟩ := hpf.form
      have HSM := Lib.hid (same_ok H79 (selO ds best) xs ship _ _ W9 hin9 hpp9 hpf9 HEL.out)
      have HL9 := Lib.hid (HL8.out.call hb9)
      have p0 := cell_h (hI9 _ _ HP7.out) 0 (v := .slice Al lE.length cl) rfl
      have p1 := cell_h (hI9 _ _ HP7.out) 1 (v := .int .i64 (sE : Nat)) rfl
      have p2 := cell_h (hI9 _ _ HP7.out) 2 (v := .slice Ac tk.length cc) rfl
      have p3 := cell_h (hI9 _ _ HP7.out) 3 (v := .int .i64 (tot : Nat)) rfl
      have q0 := cell_h hq2 0 (v := qa) rfl
      have q1 := cell_h hq2 1 (v := qb2) rfl
      have q2 := cell_h hq2 2 (v := qc) rfl
      have q3 := cell_h hq2 3 (v := .int .i64 (totS (endS (selO ds best) xs ship) : Nat)) rfl
      clear hI9 hb9 hq1 hq2 hn' hin' hz' hpf hH79 hin9 hpf9 hpp9 HL8 HIN7 HPF7 HP7 HR7 HDS7 HRX7 HXS7 HBK7 HSB7 HRB7 HLTB HEL HOKB hc0
      generalize totS (endS (selO ds best) xs ship) = tot2 at *
      go_wp2_with fail
      refine HSM.out.mono ?_
      rintro e W10 ⟨rfl, hb10⟩
      have HL10 := Lib.hid (HL9.out.call hb10)
      clear HSM hb10 p0 p1 p2 p3 q0 q1 q2 q3 HL9
      go_wp2_with fail
      go_loopw [56] (fun t wr => ∃ j K : Nat, j ≤ 6 ∧ t = .int .i64 j ∧ K ≤ 900 + 10 * j ∧ Hid (Lw w w.heap.size K H8 wr)) (fun t _ => 6 - (intOf t).toNat)
      case atStart => exact ⟨0, 801, by omega, rfl, by omega, HL10⟩
      case round =>
        clear HL10
        obtain ⟨j, K, hj, rfl, hK, J⟩ := hrel
        by_cases hlt : j < 6
        · have hlt2 : (j : Int) < 6 := by omega
          have s0 := cell_h (J.out.fin _ _ (HL58.out _ _ HSB5.out)) 0 (v := .slice A ds.length cap) rfl
          have hbs := J.out.lt
          have JR0 : Hid (Orow wr wr.heap.size 3 1 fN (.slice none 0 0) []) := Orow.nil _ _ _ _ _
          have HNB : Hid (∀ b, wr.heap.size ≤ b → H8 b = none) := fun b hb => J.out.fin.none_ hb
          generalize hBB : wr.heap.size = BB at *
          have HSZ0 : Hid (BB ≤ wr.heap.size) := by show _ ≤ _; omega
          clear hBB
          go_wp2_with fail
          clear s0
          go_loopw [13, 60] (fun v t wq => ∃ (i K : Nat) (l : List Nat), i ≤ ds.length ∧ t = .int .i64 i ∧ K ≤ 900 + 10 * j + i ∧ Hid (Lw w w.heap.size K H8 wq) ∧ Hid (Orow wq BB 3 1 fN v l) ∧ Hid (l.Sublist (List.range i)) ∧ Hid (BB ≤ wq.heap.size)) (fun _ t _ => ds.length - (intOf t).toNat)
          case atStart => exact ⟨0, K, [], by omega, rfl, by omega, J, JR0, List.Sublist.refl _, HSZ0⟩
          case round =>
            clear J JR0 HSZ0
            obtain ⟨i, K, l, hi, rfl, hK, J, JR, JS, JZ⟩ := hrel
            by_cases hlti : i < ds.length
            · have hlti2 : (i : Int) < ds.length := by omega
              have hll : l.length ≤ i := by have := JS.out.length_le; simpa using this
              go_wp2_with fail
              refine (J.out.flip 2 (by omega) (by omega)).mono ?_
              rintro e W11 ⟨tf, rfl, L11, hg11, hsz11⟩
              have J2 := Lib.hid L11
              have JR2 := Lib.hid (JR.out.far hg11 hbs)
              have JZ2 : Hid (BB ≤ W11.heap.size) := by show _ ≤ _; have := JZ.out; omega
              clear L11 hg11 hsz11 J JR JZ
              cases tf with
              | false =>
                have JS2 : Hid (l.Sublist (List.range (i + 1))) := by
                  show l.Sublist _
                  rw [List.range_succ]
                  exact JS.out.trans (List.sublist_append_left _ _)
                go_wp2_with fail
                go_roundw
                case rel => exact ⟨i + 1, K + 1, l, by omega, by go_num, by omega, J2, JR2, JS2, JZ2⟩
                case measure => simp [intOf]; omega
              | true =>
                have JS2 : Hid ((l ++ [i]).Sublist (List.range (i + 1))) := by
                  show (l ++ [i]).Sublist _
                  rw [List.range_succ]
                  exact JS.out.append (List.Sublist.refl _)
                have hjz := JZ2.out
                go_upto_region 18 with (at_builtin; refine wpList_app rfl _ _ 22 rfl BB 3 i0 (.int .i64 0) 1 8 Tryz.underlying22 hi0 hz0 hz1 hz2 rfl (by decide) fN _ l rfl JR2.out i #[.int .i64 i] 3 rfl rfl (by simp [Value.oneCell']) (by omega) (by omega) hjz ?_; intro v4 W12 ho4 hg4 hb4)
                have J3 := Lib.hid (J2.out.grown hg4 (fun g hg => ⟨by have := (Orow.lt JR2.out hg).1; omega, HNB.out g (Orow.lt JR2.out hg).1⟩))
                have JR3 := Lib.hid ho4
                have JZ3 : Hid (BB ≤ W12.heap.size) := by show _ ≤ _; have := hb4.size; omega
                clear ho4 hg4 hb4 hjz J2 JR2 JZ2
                go_wp2_with fail
                go_roundw
                case rel => exact ⟨i + 1, K + 1, l ++ [i], by omega, by go_num, by omega, J3, JR3, JS2, JZ3⟩
                case measure => simp [intOf]; omega
            · have hie : i = ds.length := by omega
              subst hie
              have hPl : Places ds l := JS.out
              have HLT := Lib.hid hPl.lt
              have hll : l.length ≤ 6 := by have := hPl.length_le; simp at this; omega
              have HPL := Lib.hid hPl
              obtain ⟨A13, cap13, H10, hv13, -, q1, q2, hR13, q3⟩ := Orow.freezeN JR.out H8
              have hl10 := q2 (fun g hg => HNB.out g (Orow.lt JR.out hg).1)
              have HIN10 := Lib.hid (q1 J.out.fin)
              have HRB10 := Lib.hid hR13
              have HR10 := Lib.hid (HR5.out.le (HL58.out.trans hl10))
              have HDS10 : Hid (∀ d ∈ ds, OfIn H10 d) := fun d hd => (HDS5.out d hd).le (HL58.out.trans hl10)
              have HRX10 := Lib.hid (HRX5.out.le (HL58.out.trans hl10))
              have HXS10 : Hid (∀ x ∈ xs, ItIn H10 x) := fun x hx => (HXS5.out x hx).le (HL58.out.trans hl10)
              have HBK10 := Lib.hid ((HL58.out.trans hl10) _ _ HBK5.out)
              have HSB10 := Lib.hid ((HL58.out.trans hl10) _ _ HSB5.out)
              have HBL2 := Lib.hid (HBL.out l hPl)
              have hlt3 : ¬ (ds.length : Int) < (ds.length : Int) := by omega
              subst hv13
              clear hPl q1 q2 q3 hR13 hl10 JR JS JZ
              go_upto_region 19 with (fail)
              clear hlt3
              generalize wr = W13 at *
              refine wp_region_concV 11 104 (φBo W13.heap.size (.func (Fn.func 13) #[] #[.pointer (some ⟨sb, 0, none⟩)]) (.slice A13 l.length cap13) (.agg #[.slice Ab xs.length capb, .int .i64 ship]) (.int .i64 at_) (selO ds l) xs ship (priceOk (selO ds l) xs ship at_)) (BoxJ 35 9 15 10 H10 W13 (fun cs w => PrRes W13.heap.size (selO ds l) xs ship (priceOk (selO ds l) xs ship at_) (.agg cs) w)) (ET 35) (by kernel_rfl) (by kernel_rfl) (by rfl) (BoxJ.start HIN10.out _ _) (fun i x w w' _ e h => φBo_mono i x w w' e h) (fun i x w hi e h => ?_) ?_ ?_
              · have hcs : i = 10 := by
                  have : i = 0 ∨ i = 1 ∨ i = 2 ∨ i = 3 ∨ i = 4 ∨ i = 5 ∨ i = 6 ∨ i = 7 ∨ i = 8 ∨ i = 9 ∨ i = 10 := by omega
                  rcases this with rfl | rfl | rfl | rfl | rfl | rfl | rfl | rfl | rfl | rfl | rfl <;> first | rfl | exact absurd e (by decide)
                subst hcs
                trivial
              · intro n o hn ho a W2 L hr hsN hLs hJ hkn
                replace hsN : a.tmps.size = 104 := hsN
                have hcs : n = 0 ∨ n = 1 ∨ n = 2 ∨ n = 3 ∨ n = 4 ∨ n = 5 ∨ n = 6 ∨ n = 7 ∨ n = 8 ∨ n = 9 ∨ n = 10 := by omega
                rcases hcs with rfl | rfl | rfl | rfl | rfl | rfl | rfl | rfl | rfl | rfl | rfl
                · obtain rfl := Option.some.inj ho
                  refine OpV.mono (R := fun v w' => φBo W13.heap.size (.func (Fn.func 13) #[] #[.pointer (some ⟨sb, 0, none⟩)]) (.slice A13 l.length cap13) (.agg #[.slice Ab xs.length capb, .int .i64 ship]) (.int .i64 at_) (selO ds l) xs ship (priceOk (selO ds l) xs ship at_) 0 v w' ∧ Below W2.heap.size W2 w') ?_ (fun v w' h => ⟨h.1, hJ.step (fun cs hb => PrRes.mono (ET.of hb)) h.2 (by decide) (by decide) (by decide) v, ET.of h.2⟩)
                  exact ⟨hkn 10 (by decide), Below.refl _ _⟩
                · obtain rfl := Option.some.inj ho
                  refine OpV.mono (R := fun v w' => φBo W13.heap.size (.func (Fn.func 13) #[] #[.pointer (some ⟨sb, 0, none⟩)]) (.slice A13 l.length cap13) (.agg #[.slice Ab xs.length capb, .int .i64 ship]) (.int .i64 at_) (selO ds l) xs ship (priceOk (selO ds l) xs ship at_) 1 v w' ∧ Below W2.heap.size W2 w') ?_ (fun v w' h => ⟨h.1, hJ.step (fun cs hb => PrRes.mono (ET.of hb)) h.2 (by decide) (by decide) (by decide) v, ET.of h.2⟩)
                  exact ⟨hkn 13 (by decide), Below.refl _ _⟩
                · obtain rfl := Option.some.inj ho
                  refine OpV.mono (R := fun v w' => φBo W13.heap.size (.func (Fn.func 13) #[] #[.pointer (some ⟨sb, 0, none⟩)]) (.slice A13 l.length cap13) (.agg #[.slice Ab xs.length capb, .int .i64 ship]) (.int .i64 at_) (selO ds l) xs ship (priceOk (selO ds l) xs ship at_) 2 v w' ∧ Below W2.heap.size W2 w') ?_ (fun v w' h => ⟨h.1, hJ.step (fun cs hb => PrRes.mono (ET.of hb)) h.2 (by decide) (by decide) (by decide) v, ET.of h.2⟩)
                  have h1 := slotv (hkn 71 (by decide) : a.tmps.getD 71 undef = (.func (Fn.func 13) #[] #[.pointer (some ⟨sb, 0, none⟩)]))
                  have h2 := slotv (hkn 72 (by decide) : a.tmps.getD 72 undef = .slice A13 l.length cap13)
                  have hcc := chosen_any H10 sb A cap ds l A13 cap13 W2 hJ.inn HSB10.out HR10.out HRB10.out HLT.out (by omega) (by omega)
                  have hsz := hJ.bel.size
                  clear hkn ho
                  simp only [OpV, execOp]
                  simp [go_sem, h1, h2]
                  refine hcc.mono ?_
                  rintro e w' ⟨⟨v, rfl, hO⟩, hb⟩
                  exact ⟨v, rfl, hO.mono hsz, hb⟩
                · obtain rfl := Option.some.inj ho
                  refine OpV.mono (R := fun v w' => φBo W13.heap.size (.func (Fn.func 13) #[] #[.pointer (some ⟨sb, 0, none⟩)]) (.slice A13 l.length cap13) (.agg #[.slice Ab xs.length capb, .int .i64 ship]) (.int .i64 at_) (selO ds l) xs ship (priceOk (selO ds l) xs ship at_) 3 v w' ∧ Below W2.heap.size W2 w') ?_ (fun v w' h => ⟨h.1, hJ.step (fun cs hb => PrRes.mono (ET.of hb)) h.2 (by decide) (by decide) (by decide) v, ET.of h.2⟩)
                  have h1 := slotv (hkn 5 (by decide) : a.tmps.getD 5 undef = .pointer (some ⟨bb, 0, none⟩))
                  have b0 : W2.cell? ⟨bb, 0, none⟩ = some (.slice Ab xs.length capb) := cell_h (hJ.inn _ _ HBK10.out) 0 rfl
                  have b1 : W2.cell? ⟨bb, 1, none⟩ = some (.int .i64 ship) := cell_h (hJ.inn _ _ HBK10.out) 1 rfl
                  clear hkn ho
                  simp only [OpV, execOp]
                  simp [go_sem, h1, b0, b1]
                  exact ⟨rfl, Below.refl _ _⟩
                · obtain rfl := Option.some.inj ho
                  refine OpV.mono (R := fun v w' => φBo W13.heap.size (.func (Fn.func 13) #[] #[.pointer (some ⟨sb, 0, none⟩)]) (.slice A13 l.length cap13) (.agg #[.slice Ab xs.length capb, .int .i64 ship]) (.int .i64 at_) (selO ds l) xs ship (priceOk (selO ds l) xs ship at_) 4 v w' ∧ Below W2.heap.size W2 w') ?_ (fun v w' h => ⟨h.1, hJ.step (fun cs hb => PrRes.mono (ET.of hb)) h.2 (by decide) (by decide) (by decide) v, ET.of h.2⟩)
                  exact ⟨hkn 6 (by decide), Below.refl _ _⟩
                · obtain rfl := Option.some.inj ho
                  refine OpV.mono (R := fun v w' => φBo W13.heap.size (.func (Fn.func 13) #[] #[.pointer (some ⟨sb, 0, none⟩)]) (.slice A13 l.length cap13) (.agg #[.slice Ab xs.length capb, .int .i64 ship]) (.int .i64 at_) (selO ds l) xs ship (priceOk (selO ds l) xs ship at_) 5 v w' ∧ Below W2.heap.size W2 w') ?_ (fun v w' h => ⟨h.1, hJ.step (fun cs hb => PrRes.mono (ET.of hb)) h.2 (by decide) (by decide) (by decide) v, ET.of h.2⟩)
                  have hO : Orow W2 W13.heap.size 50 12 fOf (a.tmps.getD 73 undef) (selO ds l) := hkn 73 (by decide)
                  obtain ⟨A9, cap9, H9, h1, hle9, p1, p2, hR9, -⟩ := hO.freeze H10
                  have le := p2 (fun g hg => HIN10.out.none_ (hO.lt hg).1)
                  have hin := p1 hJ.inn
                  replace h1 := slotv h1
                  have h2 := slotv (hkn 74 (by decide) : a.tmps.getD 74 undef = .agg #[.slice Ab xs.length capb, .int .i64 ship])
                  have h3 := slotv (hkn 75 (by decide) : a.tmps.getD 75 undef = .int .i64 at_)
                  have hcc := price_res H9 A9 Ab cap9 capb (selO ds l) xs ship at_ W2 hin hR9 (fun d hd => (HDS10.out d (selO_mem d hd)).le le) (by have := selO_len (ds := ds) (l := l) HLT.out; omega) hle9 (HRX10.out.le le) (fun x hx => (HXS10.out x hx).le le) (by omega) hlecb W13.heap.size hJ.bel.size
                  clear hkn ho hO p1 p2
                  simp only [OpV, execOp]
                  simp [go_sem, h1, h2, h3]
                  exact hcc
                · obtain rfl := Option.some.inj ho
                  refine OpV.mono (R := fun v w' => φBo W13.heap.size (.func (Fn.func 13) #[] #[.pointer (some ⟨sb, 0, none⟩)]) (.slice A13 l.length cap13) (.agg #[.slice Ab xs.length capb, .int .i64 ship]) (.int .i64 at_) (selO ds l) xs ship (priceOk (selO ds l) xs ship at_) 6 v w' ∧ Below W2.heap.size W2 w') ?_ (fun v w' h => ⟨h.1, hJ.step (fun cs hb => PrRes.mono (ET.of hb)) h.2 (by decide) (by decide) (by decide) v, ET.of h.2⟩)
                  exact ⟨hkn 76 (by decide), Below.refl _ _⟩
                · obtain rfl := Option.some.inj ho
                  refine OpV.mono (R := fun v w' => φBo W13.heap.size (.func (Fn.func 13) #[] #[.pointer (some ⟨sb, 0, none⟩)]) (.slice A13 l.length cap13) (.agg #[.slice Ab xs.length capb, .int .i64 ship]) (.int .i64 at_) (selO ds l) xs ship (priceOk (selO ds l) xs ship at_) 7 v w' ∧ Below W2.heap.size W2 w') ?_ (fun v w' h => ⟨h.1, hJ.step (fun cs hb => PrRes.mono (ET.of hb)) h.2 (by decide) (by decide) (by decide) v, ET.of h.2⟩)
                  obtain ⟨u, x, h1, hu, hx⟩ : TupRes W13.heap.size (selO ds l) xs ship (priceOk (selO ds l) xs ship at_) (a.tmps.getD 70 undef) W2 := hkn 70 (by decide)
                  replace h1 := slotv h1
                  clear hkn ho
                  simp only [OpV, execOp]
                  simp [go_sem, h1]
                  exact ⟨hu, Below.refl _ _⟩
                · obtain rfl := Option.some.inj ho
                  refine OpV.mono (R := fun v w' => φBo W13.heap.size (.func (Fn.func 13) #[] #[.pointer (some ⟨sb, 0, none⟩)]) (.slice A13 l.length cap13) (.agg #[.slice Ab xs.length capb, .int .i64 ship]) (.int .i64 at_) (selO ds l) xs ship (priceOk (selO ds l) xs ship at_) 8 v w' ∧ Below W2.heap.size W2 w') ?_ (fun v w' h => ⟨h.1, hJ.step (fun cs hb => PrRes.mono (ET.of hb)) h.2 (by decide) (by decide) (by decide) v, ET.of h.2⟩)
                  obtain ⟨u, x, h1, hu, hx⟩ : TupRes W13.heap.size (selO ds l) xs ship (priceOk (selO ds l) xs ship at_) (a.tmps.getD 70 undef) W2 := hkn 70 (by decide)
                  replace h1 := slotv h1
                  clear hkn ho
                  simp only [OpV, execOp]
                  simp [go_sem, h1]
                  exact ⟨hx, Below.refl _ _⟩
                · obtain rfl := Option.some.inj ho
                  refine OpV.mono (R := fun v w' => φBo W13.heap.size (.func (Fn.func 13) #[] #[.pointer (some ⟨sb, 0, none⟩)]) (.slice A13 l.length cap13) (.agg #[.slice Ab xs.length capb, .int .i64 ship]) (.int .i64 at_) (selO ds l) xs ship (priceOk (selO ds l) xs ship at_) 9 v w' ∧ Below W2.heap.size W2 w') ?_ (fun v w' h => ⟨h.1, hJ.new h.2 (mem_ready.1 hr).1 (by decide) v, ET.of h.2⟩)
                  clear hkn ho
                  simp only [OpV, execOp]
                  simp [go_sem]
                  exact ⟨⟨W2.heap.size, _, rfl, hJ.bel.size, heap_alloc_new _ _, rfl⟩, new1 _⟩
                · obtain rfl := Option.some.inj ho
                  obtain ⟨b, c, h1, hb0, hbc, hcs⟩ : BoxP 35 W13.heap.size 4 (a.tmps.getD 15 undef) W2 := hkn 15 (by decide)
                  have hu : PrRes W13.heap.size (selO ds l) xs ship (priceOk (selO ds l) xs ship at_) (a.tmps.getD 77 undef) W2 := hkn 77 (by decide)
                  have h9 : L.getD 9 false = true := by
                    obtain ⟨_, o', ho', hall⟩ := mem_ready.1 hr
                    obtain rfl := Option.some.inj ho'
                    exact hall { on := 9, ground := Ground.data } (by simp) rfl
                  have hbn := HIN10.out.none_ hb0
                  obtain ⟨cs, hcs2, hz, hone⟩ := hu.cells
                  refine OpV.store_whole 35 (.tmp 15) (.tmp 77) rfl b h1 cs hcs2 hbc (by omega) (by rw [hz]; kernel_rfl) hone ?_
                  intro w' hg hsz hn
                  have het := ET.store hbc (by omega) hg hn
                  exact ⟨trivial, hJ.store h1 hb0 h9 (by decide) hbn hg hn (by rw [← hcs2]; exact hu.mono het) undef, het⟩
              · intro yv W9 L9 hL9 hW9 hgt hφ
                have e8 : ErRes (priceOk (selO ds l) xs ship at_) (yv 8) := (hφ 8 (by omega)).resolve_right (fun c => (show ¬ ((some 78 : Option Nat) = none) from nofun) c.1)
                obtain ⟨hI9, hb9, hst⟩ := hW9
                obtain ⟨-, qb, cs, hab, hq1, hq2, hG⟩ := hst (hL9 10 (by omega))
                have e9 : yv 9 = .pointer (some ⟨qb, 0, none⟩) := (hgt 9 15 rfl).symm.trans hab
                obtain ⟨c0, h8, hc0⟩ := e8
                have J14 := Lib.hid (J.out.call hb9)
                clear hgt hab hst hL9 hφ J hb9
                simp only [List.drop_succ_cons, List.drop_zero, List.take_succ_cons, List.take_zero, putAll, Nat.reduceAdd, h8, e9]
                clear h8 e9
                generalize yv 0 = y0
                generalize yv 1 = y1
                generalize yv 2 = y2
                generalize yv 3 = y3
                generalize yv 4 = y4
                generalize yv 5 = y5
                generalize yv 6 = y6
                generalize yv 7 = y7
                generalize yv 10 = y10
                generalize priceOk (selO ds l) xs ship at_ = ok at *
                cases ok with
                | false =>
                  have hc1 : (c0 == 0) = false := by
                    have : ¬ c0 = 0 := fun h => by have := hc0.1 h; cases this
                    simpa using this
                  clear hc0 hG hq2 hI9
                  go_wp2_with fail
                  go_roundw
                  case rel => exact ⟨j + 1, K, by omega, by go_num, by omega, J14⟩
                  case measure => simp [intOf]; omega
                | true =>
                  have hc1 : c0 = 0 := hc0.2 rfl
                  subst hc1
                  rcases hG with ⟨h, -⟩ | ⟨-, H', hn', hin', hz', hpf⟩
                  · cases h
                  obtain ⟨qa, qb2, qc, rfl⟩ := hpf.form
                  have hnm := HBL2.out rfl
                  have HTX : Hid (totS (endS (selO ds l) xs ship) = totO ds xs ship l) := rfl
                  rw [← HTX.out, ← HTB.out] at hnm
                  have x3 := cell_h hq2 3 (v := .int .i64 (totS (endS (selO ds l) xs ship) : Nat)) rfl
                  have p3 := cell_h (J14.out.fin _ _ HP8.out) 3 (v := .int .i64 (tot : Nat)) rfl
                  clear hc0 hq2 hI9 hpf hn' hin' hz' HTX
                  generalize totS (endS (selO ds l) xs ship) = tx at *
                  unfold noMore at hnm
                  dsimp only at hnm
                  have k1 : decide ((tx : Int) < (tot : Int)) = false := decide_eq_false (by omega)
                  by_cases hte : tx = tot
                  · have k2 : ((tx : Int) == (tot : Int)) = true := by simp [hte]
                    have k3 : decide ((l.length : Int) < (best.length : Int)) = false := decide_eq_false (by omega)
                    have k4 : ¬ (l.length : Int) < (best.length : Int) := by omega
                    have k5 : ¬ (tx : Int) < (tot : Int) := by omega
                    clear hnm
                    go_wp2_with fail
                    go_roundw
                    case rel => exact ⟨j + 1, K, by omega, by go_num, by omega, J14⟩
                    case measure => simp [intOf]; omega
                  · have k2 : ((tx : Int) == (tot : Int)) = false := by simp; omega
                    have k5 : ¬ (tx : Int) < (tot : Int) := by omega
                    clear hnm
                    go_wp2_with fail
                    go_roundw
                    case rel => exact ⟨j + 1, K, by omega, by go_num, by omega, J14⟩
                    case measure => simp [intOf]; omega
        · have hje : j = 6 := by omega
          subst hje
          go_wp2_with fail
          refine (offers_any _).mono ?_
          rintro e W6 ⟨rfl, hw⟩
          obtain rfl := hw.symm
          go_wp2_with fail
          go_ret
          exact ⟨rfl, J.out.bel⟩
end Go.Proofs.YtihcmifikbkbcaaGreat
