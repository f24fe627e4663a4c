/- Coupons: what is wrong with them, as the document says. -/
import Derived.Test.YtecbejmeejepmaaDoorMakeCoupons
import Derived.Test.YtecbejmeejepmaaDoorIdxCoupon
import Derived.Test.YtecbejmeejepmaaDoorPurse
namespace Go.Proofs.YtecbejmeejepmaaDoor
set_option linter.unusedVariables false
open Go.RowKit

def sameCode (k : ByteArray) (x : CouponD) : Bool := x.code.toList == k.toList
def limC (d : CouponD) : Bool := decide (1 ≤ d.most) && decide (d.most ≤ 1000000) && decide (1 ≤ d.each) && decide (d.each ≤ 1000000) && decide (0 ≤ d.first) && decide (d.first ≤ 4321439) && decide (d.first < d.last) && decide (d.last ≤ 4321440)
/-- What is right with the i-th of coupons. -/
def coAt (ds : List CouponD) (i : Nat) : Prop := ∀ (h : i < ds.length), codeErr ds[i].code = 0 ∧ anyF (sameCode ds[i].code) (ds.take i) = false ∧ isKey ds[i].offer = true ∧ limC ds[i] = true
def CouponsOK (ds : List CouponD) : Prop := ds.length ≤ 1000 ∧ ∀ i, coAt ds i
theorem costep_ok {ds : List CouponD} {i : Nat} (h : ∀ j, j < i → coAt ds j) (hi : coAt ds i) : ∀ j, j < i + 1 → coAt ds j := fun j hj => by
  by_cases e : j = i
  · rw [e]; exact hi
  · exact h j (by omega)
def CoPost2 (ds : List CouponD) (w : World) (e : Ending) (w' : World) : Prop := ∃ n : Int, e = .returned (.int .i64 n) ∧ (n = 0 ↔ CouponsOK ds) ∧ Below w.heap.size w w'
theorem CoPost2.bad {ds : List CouponD} {w w' : World} {n : Int} (hn : n ≠ 0) (h : ¬ CouponsOK ds) (hb : Below w.heap.size w w') : CoPost2 ds w (.returned (.int .i64 n)) w' := ⟨n, rfl, ⟨fun e => absurd e hn, fun e => absurd e h⟩, hb⟩
set_option maxHeartbeats 400000 in
theorem moment_any (n : Int) (w : World) : Calls Tryd.prog 39 #[.int .i64 n] w fun e w' => e = .returned (.bool (decide (0 ≤ n) && decide (n < 4321440))) ∧ w = w' := by
  by_cases h1 : 0 ≤ n
  · go_enter Tryd.func39, Tryd.ntmps39
    go_wp2
    go_ret
    exact ⟨by simp [h1], rfl⟩
  · go_enter Tryd.func39, Tryd.ntmps39
    go_wp2
    go_ret
    exact ⟨by simp; omega, rfl⟩

set_option maxHeartbeats 1000000 in
theorem couponsFault1_any (H : Frz) (b : Nat) (d x : CouponD) (T : TypeId) (hb : H b = some (.cells #[.string d.code, .string d.offer, .int .i64 d.most, .int .i64 d.each, .int .i64 d.first, .int .i64 d.last] T (0, 0))) (w : World) (hH : H.In w) :
    Calls Tryd.prog 37 #[.agg #[fCo x 0, fCo x 1, fCo x 2, fCo x 3, fCo x 4, fCo x 5], .pointer (some ⟨b, 0, none⟩)] w fun e w' => e = .returned (.bool (sameCode d.code x)) ∧ Below w.heap.size w w' := by
  obtain ⟨x0, _⟩ := frz6 (hH.alloc (.cells #[.string x.code, .string x.offer, .int .i64 x.most, .int .i64 x.each, .int .i64 x.first, .int .i64 x.last] 44)) hb
  have hlt : b < w.heap.size := by
    have := hH _ _ hb
    exact (Array.getElem?_eq_some_iff.1 this).1
  have HV : Hid (sameCode d.code x = (x.code.toList == d.code.toList)) := rfl
  generalize sameCode d.code x = r at HV
  clear hH hb
  show Calls Tryd.prog 37 #[.agg #[.string x.code, .string x.offer, .int .i64 x.most, .int .i64 x.each, .int .i64 x.first, .int .i64 x.last], .pointer (some ⟨b, 0, none⟩)] w _
  generalize hq : (x.code.toList == d.code.toList) = q at HV
  go_enter Tryd.func37, Tryd.ntmps37
  go_wp2_with fail
  go_ret
  exact ⟨ret_bool' HV.out.symm, (Below.refl _ _).alloc (Nat.le_refl _) _⟩

set_option maxHeartbeats 4000000 in
set_option maxRecDepth 100000 in
theorem couponsFault_any (H : Frz) (A : Option Addr) (cap : Nat) (ds : List CouponD) (w : World) (hH : H.In w) (hR : Rw H A 6 fCo ds) (hsz : ∀ d ∈ ds, d.code.size ≤ 1000 ∧ d.offer.size ≤ 1000) (hl : ds.length ≤ 1000000) (hcap : ds.length ≤ cap) :
    Calls Tryd.prog 8 #[.slice A ds.length cap] w (CoPost2 ds w) := by
  have HR := Lib.hid hR
  have HH := Lib.hid hH
  have HS := Lib.hid hsz
  clear hR hH hsz
  by_cases hbig : 1000 < ds.length
  · go_enter Tryd.func8, Tryd.ntmps8
    go_wp2_with fail
    go_ret
    exact CoPost2.bad (by omega) (fun h => by have := h.1; omega) (Below.refl _ _)
  · go_enter Tryd.func8, Tryd.ntmps8
    go_wp2_with fail
    go_loopw [11] (fun t wr => ∃ i : Nat, i ≤ ds.length ∧ t = .int .i64 i ∧ Hid (∀ j, j < i → coAt ds j) ∧ Hid (Below w.heap.size w wr)) (fun t _ => ds.length - (intOf t).toNat)
    case atStart => exact ⟨0, by omega, rfl, fun j hj => absurd hj (by omega), Below.refl _ _⟩
    case round =>
      obtain ⟨i, hi, rfl, hok, hb⟩ := hrel
      by_cases hlt : i < ds.length
      · have hin := HH.out.below hb.out
        obtain ⟨b, off, hA, hbl, hc⟩ := HR.out.at_ hin hlt (by omega)
        subst hA
        have c0 : wr.cell? ⟨b, off + i * 6, none⟩ = some (.string ds[i].code) := hc 0 (by omega)
        have c1 : wr.cell? ⟨b, off + i * 6 + 1, none⟩ = some (.string ds[i].offer) := hc 1 (by omega)
        have c2 : wr.cell? ⟨b, off + i * 6 + 2, none⟩ = some (.int .i64 ds[i].most) := hc 2 (by omega)
        have c3 : wr.cell? ⟨b, off + i * 6 + 3, none⟩ = some (.int .i64 ds[i].each) := hc 3 (by omega)
        have c4 : wr.cell? ⟨b, off + i * 6 + 4, none⟩ = some (.int .i64 ds[i].first) := hc 4 (by omega)
        have c5 : wr.cell? ⟨b, off + i * 6 + 5, none⟩ = some (.int .i64 ds[i].last) := hc 5 (by omega)
        have hks := HS.out _ (List.getElem_mem hlt)
        have hbad : Hid (¬ coAt ds i → ¬ CouponsOK ds) := fun h e => h (e.2 i)
        have hat : Hid (codeErr ds[i].code = 0 → anyF (sameCode ds[i].code) (ds.take i) = false → isKey ds[i].offer = true → limC ds[i] = true → coAt ds i) := fun h1 h2 h3 h4 h => ⟨h1, h2, h3, h4⟩
        have hno : Hid (coAt ds i → codeErr ds[i].code = 0 ∧ anyF (sameCode ds[i].code) (ds.take i) = false ∧ isKey ds[i].offer = true ∧ limC ds[i] = true) := fun h => h hlt
        clear hc
        generalize hd : ds[i] = d at c0 c1 c2 c3 c4 c5 hks hat hno
        have HIN := Lib.hid hin
        clear hin hd
        obtain ⟨H2, hl2, hbx, hin2⟩ := HIN.out.put (.cells #[.string d.code, .string d.offer, .int .i64 d.most, .int .i64 d.each, .int .i64 d.first, .int .i64 d.last] 44)
        have hb2 := Lib.hid (hb.out.alloc hb.out.size (.cells #[.string d.code, .string d.offer, .int .i64 d.most, .int .i64 d.each, .int .i64 d.first, .int .i64 d.last] 44))
        have HL2 := Lib.hid hl2
        have HBX := Lib.hid hbx
        have HIN2 := Lib.hid hin2
        clear hl2 hbx hin2
        go_wp2_with fail
        clear c0 c1 c2 c3 c4 c5
        generalize hg : wr.heap.size = g at HBX
        generalize wr.alloc _ = W1 at hb2 HIN2
        refine (codeFault_any d.code W1 hks.1).mono ?_
        rintro e W2 ⟨rfl, hbW2⟩
        have HB3 := Lib.hid (hb2.out.trans (hbW2.mono hb2.out.size))
        have HIN3 := Lib.hid (HIN2.out.below hbW2)
        clear hbW2 hb2 HIN2
        generalize codeErr d.code = q at hat hno
        by_cases hq0 : q = 0
        · subst hq0
          obtain ⟨x0, x1, x2, x3, x4, x5⟩ := frz6 HIN3.out HBX.out
          have hii : (i : Int) ≤ cap := by omega
          have hti : (ds.take i).length = i := by simp; omega
          have h46 := containsFunc_Coupon H2 fCo 37 [.pointer (some ⟨g, 0, none⟩)] (sameCode d.code) (ds.take i) (fun W x _ hW => couponsFault1_any H2 g d x _ HBX.out W hW) (fun _ _ => by kernel_rfl) (some ⟨b, off, none⟩) cap W2 HIN3.out ((HR.out.take i).le HL2.out) (by omega)
          rw [hti] at h46
          have H46 := Lib.hid h46
          clear h46 hti
          go_wp2_with fail
          refine H46.out.mono ?_
          rintro e W3 ⟨rfl, hbW3⟩
          have HB4 := Lib.hid (HB3.out.trans (hbW3.mono HB3.out.size))
          have HIN4 := Lib.hid (HIN3.out.below hbW3)
          clear hbW3 HB3 HIN3 x0 x1 x2 x3 x4 x5 H46
          obtain ⟨x0, x1, x2, x3, x4, x5⟩ := frz6 HIN4.out HBX.out
          generalize anyF (sameCode d.code) (ds.take i) = q at hat hno
          cases q with
          | true =>
            have hv := Lib.hid (hbad.out (fun h => by have := (hno.out h).2.1; cases this))
            go_wp2_with fail
            go_ret
            exact CoPost2.bad (by omega) hv.out HB4.out
          | false =>
            go_wp2_with fail
            refine (keyOf_any d.offer W3 (by omega)).mono ?_
            rintro e W4 ⟨rfl, hbW4⟩
            have HB5 := Lib.hid (HB4.out.trans (hbW4.mono HB4.out.size))
            have HIN5 := Lib.hid (HIN4.out.below hbW4)
            clear hbW4 HB4 HIN4 x0 x1 x2 x3 x4 x5
            obtain ⟨x0, x1, x2, x3, x4, x5⟩ := frz6 HIN5.out HBX.out
            generalize hqq : isKey d.offer = q at hat hno
            cases q with
            | false =>
              have hv := Lib.hid (hbad.out (fun h => by have := (hno.out h).2.2.1; cases this))
              clear hqq
              go_wp2_with fail
              go_ret
              exact CoPost2.bad (by omega) hv.out HB5.out
            | true =>
              clear hqq
              by_cases hlim : limC d = true
              · have hv := Lib.hid (hat.out trivial trivial rfl hlim)
                obtain ⟨y1, y2, y3, y4, y5, y6, y7, y8⟩ : 1 ≤ d.most ∧ d.most ≤ 1000000 ∧ 1 ≤ d.each ∧ d.each ≤ 1000000 ∧ 0 ≤ d.first ∧ d.first ≤ 4321439 ∧ d.first < d.last ∧ d.last ≤ 4321440 := by
                  simp [limC] at hlim; omega
                clear hlim hat hno hbad
                go_wp2_with fail
                refine (moment_any _ _).mono ?_
                rintro e w' ⟨rfl, rfl⟩
                rw [show (decide (0 ≤ d.first) && decide (d.first < 4321440)) = true from by simp; omega]
                go_wp2_with fail
                go_roundw
                case rel => exact ⟨i + 1, by omega, by go_num, costep_ok hok.out hv.out, HB5⟩
                case measure => simp [intOf]; omega
              · have hv := Lib.hid (hbad.out (fun h => hlim (hno.out h).2.2.2))
                have hsp : (d.most < 1) ∨ (1 ≤ d.most ∧ 1000000 < d.most) ∨ (1 ≤ d.most ∧ d.most ≤ 1000000 ∧ d.each < 1) ∨ (1 ≤ d.most ∧ d.most ≤ 1000000 ∧ 1 ≤ d.each ∧ 1000000 < d.each) ∨ (1 ≤ d.most ∧ d.most ≤ 1000000 ∧ 1 ≤ d.each ∧ d.each ≤ 1000000 ∧ (d.first < 0 ∨ 4321439 < d.first)) ∨ (1 ≤ d.most ∧ d.most ≤ 1000000 ∧ 1 ≤ d.each ∧ d.each ≤ 1000000 ∧ 0 ≤ d.first ∧ d.first ≤ 4321439 ∧ d.last ≤ d.first) ∨ (1 ≤ d.most ∧ d.most ≤ 1000000 ∧ 1 ≤ d.each ∧ d.each ≤ 1000000 ∧ 0 ≤ d.first ∧ d.first ≤ 4321439 ∧ d.first < d.last ∧ 4321440 < d.last) := by
                  simp [limC] at hlim; omega
                clear hlim hat hno hbad
                rcases hsp with y1 | ⟨y1, y2⟩ | ⟨y1, y2, y3⟩ | ⟨y1, y2, y3, y4⟩ | ⟨y1, y2, y3, y4, y5⟩ | ⟨y1, y2, y3, y4, y5, y6, y7⟩ | ⟨y1, y2, y3, y4, y5, y6, y7, y8⟩
                · go_wp2_with fail
                  go_ret
                  exact CoPost2.bad (by omega) hv.out HB5.out
                · go_wp2_with fail
                  go_ret
                  exact CoPost2.bad (by omega) hv.out HB5.out
                · go_wp2_with fail
                  go_ret
                  exact CoPost2.bad (by omega) hv.out HB5.out
                · go_wp2_with fail
                  go_ret
                  exact CoPost2.bad (by omega) hv.out HB5.out
                · have hmf : (decide (0 ≤ d.first) && decide (d.first < 4321440)) = false := by simp; omega
                  clear y5
                  go_wp2_with fail
                  refine (moment_any _ _).mono ?_
                  rintro e w' ⟨rfl, rfl⟩
                  rw [hmf]
                  go_wp2_with fail
                  go_ret
                  exact CoPost2.bad (by omega) hv.out HB5.out
                · go_wp2_with fail
                  refine (moment_any _ _).mono ?_
                  rintro e w' ⟨rfl, rfl⟩
                  rw [show (decide (0 ≤ d.first) && decide (d.first < 4321440)) = true from by simp; omega]
                  go_wp2_with fail
                  go_ret
                  exact CoPost2.bad (by omega) hv.out HB5.out
                · go_wp2_with fail
                  refine (moment_any _ _).mono ?_
                  rintro e w' ⟨rfl, rfl⟩
                  rw [show (decide (0 ≤ d.first) && decide (d.first < 4321440)) = true from by simp; omega]
                  go_wp2_with fail
                  go_ret
                  exact CoPost2.bad (by omega) hv.out HB5.out
        · have hne : (q != 0) = true := by simpa using hq0
          have hv := Lib.hid (hbad.out (fun h => hq0 (hno.out h).1))
          clear hq0
          go_wp2_with fail
          go_ret
          exact CoPost2.bad (by simpa using hne) hv.out HB3.out
      · have hie : i = ds.length := by omega
        subst hie
        have hv : Hid (CouponsOK ds) := ⟨by omega, fun j h => hok.out j h h⟩
        go_wp2_with fail
        go_ret
        exact ⟨0, rfl, ⟨fun _ => hv.out, fun _ => rfl⟩, hb.out⟩
end Go.Proofs.YtecbejmeejepmaaDoor
