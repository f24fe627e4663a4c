/- A normal id, taken as a text, is itself: the law returns true. -/
import Derived.Test.YtbidhpgjmcedaaaGreatDoorGAQ
import Derived.Test.YtbidhpgjmcedaaaGreatDoorGAR
import Derived.Test.YtbidhpgjmcedaaaGreatDoorGAW
import Derived.Test.YtbidhpgjmcedaaaGreatDoorGAX
namespace Go.Proofs.YtbidhpgjmcedaaaGreatDoor
set_option linter.unusedVariables false
open Go.RowKit
set_option maxHeartbeats 4000000 in
set_option maxRecDepth 100000 in
theorem normalsStay_walk (a0 : Option Addr) (len0 cap0 : Nat) (z0 : List Int) (w : World) (w0 : IsRow .i64 w a0 len0 cap0 z0) (hG : GlobU w) :
    Calls Tryz.prog 5 #[.slice a0 len0 cap0] w fun e w' => e = .returned (.bool true) ∧ Below w.heap.size w w' := by
  have L := Lw.whole w0
  have HPE := Lib.hid (fun W hW => people_any (memH w) hG.utf hG.mlen W hW)
  have HNO := Lib.hid (fun k s c W hW h1 h2 => normal_any (memH w) hG.mlen k s c W hW h1 h2)
  have HCI := Lib.hid (fun k s W hW h1 => checkId_any (memH w) hG.mlen k s W hW h1)
  clear hG w0
  go_enter Tryz.func5, Tryz.ntmps5
  go_wp2_with fail
  refine (L.idText (by omega)).mono ?_
  rintro e W1 ⟨kk, s1, c1, rfl, hs1, hc1, L1, -⟩
  have HIN1 := Lib.hid L1.fin
  have HB1 := Lib.hid L1.bel
  clear L L1
  go_wp2_with fail
  refine (HNO.out kk s1 c1 W1 HIN1.out (by omega) (by omega)).mono ?_
  rintro e W2 ⟨rfl, hb2⟩
  have HIN2 := Lib.hid (HIN1.out.below hb2)
  have HB2 := Lib.hid (HB1.out.trans (hb2.mono HB1.out.size))
  have HAG : Hid (normE kk s1 c1 = 0 → _) := fun h => norm_again h (x := normId kk s1 c1) rfl
  have HBAD : Hid (normE kk s1 c1 ≠ 0 → _) := fun h => norm_bad h
  clear HIN1 HB1 hb2
  generalize normId kk s1 c1 = x at *
  generalize normE kk s1 c1 = ee at *
  by_cases g : ee = 0
  · obtain ⟨hsz, hie, hne, hni⟩ := HAG.out g
    have k3 : (ee != 0) = false := by simpa using g
    have HIE := Lib.hid hie
    have HNE := Lib.hid hne
    have HNI := Lib.hid hni
    have hp7 : (⟨#[55]⟩ : ByteArray).size ≤ 1000000 := Nat.le_of_ble_eq_true rfl
    have hpz : (⟨#[32]⟩ ++ x.text ++ ⟨#[32, 32]⟩ : ByteArray).size ≤ 1000000 := by
      rw [ByteArray.size_append, ByteArray.size_append]
      have e1 : (⟨#[32]⟩ : ByteArray).size = 1 := rfl
      have e2 : (⟨#[32, 32]⟩ : ByteArray).size = 2 := rfl
      omega
    have HC7 := Lib.hid (fun W hW => HNO.out x.kind (⟨#[32]⟩ ++ x.text ++ ⟨#[32, 32]⟩) ⟨#[55]⟩ W hW hpz hp7)
    rw [HNE.out, HNI.out] at HC7
    clear HAG HBAD g hie hne hni HNE HNI hp7 hpz
    have HNW := Lib.hid (new1 (w := W2) (.cells #[.int .i64 x.kind, .string x.text] 55))
    have HIN3 := Lib.hid (HIN2.out.alloc (.cells #[.int .i64 x.kind, .string x.text] 55))
    have z0 : (W2.alloc (.cells #[.int .i64 x.kind, .string x.text] 55)).cell? ⟨W2.heap.size, 0, none⟩ = some (.int .i64 x.kind) := newc 0 rfl
    have z1 : (W2.alloc (.cells #[.int .i64 x.kind, .string x.text] 55)).cell? ⟨W2.heap.size, 1, none⟩ = some (.string x.text) := newc 1 rfl
    go_upto_region 4 with (fail)
    generalize W2.alloc (.cells #[.int .i64 x.kind, .string x.text] 55) = W3 at *
    have HB3 := Lib.hid (HB2.out.trans (HNW.out.mono HB2.out.size))
    generalize W2.heap.size = xb at *
    clear HNW
    go_wp2_with fail
    refine (HC7.out W3 HIN3.out).mono ?_
    rintro e W4 ⟨rfl, hb4⟩
    have K0 := lift_cell z0
    have K1 := lift_cell z1
    have HIN4 := Lib.hid (HIN3.out.below hb4)
    have HB4 := Lib.hid (HB3.out.trans (hb4.mono HB3.out.size))
    have y0 := K0 _ hb4
    have y1 := K1 _ hb4
    have HNW := Lib.hid (new1 (w := W4) (.cells #[.int .i64 x.kind, .string x.text] 55))
    have HIN5 := Lib.hid (HIN4.out.alloc (.cells #[.int .i64 x.kind, .string x.text] 55))
    have z0 : (W4.alloc (.cells #[.int .i64 x.kind, .string x.text] 55)).cell? ⟨W4.heap.size, 0, none⟩ = some (.int .i64 x.kind) := newc 0 rfl
    have z1 : (W4.alloc (.cells #[.int .i64 x.kind, .string x.text] 55)).cell? ⟨W4.heap.size, 1, none⟩ = some (.string x.text) := newc 1 rfl
    have z2 := lift_cell y0 _ HNW.out
    have z3 := lift_cell y1 _ HNW.out
    clear K0 K1 y0 y1 hb4 HC7 HIN3 HB3
    go_upto_region 7 with (fail)
    generalize W4.alloc (.cells #[.int .i64 x.kind, .string x.text] 55) = W5 at *
    have HB5 := Lib.hid (HB4.out.trans (HNW.out.mono HB4.out.size))
    generalize W4.heap.size = yb at *
    clear HNW
    have HCK := Lib.hid (HCI.out x.kind x.text W5 HIN5.out (by omega))
    rw [HIE.out] at HCK
    go_wp2_with fail
    refine HCK.out.mono ?_
    rintro e W6 ⟨rfl, hb6⟩
    have HIN6 := Lib.hid (HIN5.out.below hb6)
    have HB6 := Lib.hid (HB5.out.trans (hb6.mono HB5.out.size))
    clear hb6 HCK
    go_wp2_with fail
    refine (HPE.out _ HIN6.out).mono ?_
    rintro e W7 ⟨rfl, hb7⟩
    have HF := Lib.hid (HB6.out.trans (hb7.mono HB6.out.size))
    clear hb7
    go_wp2_with fail
    exact bodyPost_ret (by kernel_rfl) rfl ⟨rfl, HF.out⟩
  · have hx := HBAD.out g
    subst hx
    have k3 : (ee != 0) = true := by simpa using g
    clear HAG HBAD g
    go_wp2_with fail
    refine (HPE.out _ (HIN2.out.alloc _)).mono ?_
    rintro e W3 ⟨rfl, hb3⟩
    have HF := Lib.hid (HB2.out.trans ((Below.alloc (Below.refl _ _) (Nat.le_refl _) _ |>.trans (hb3.mono (by simp))).mono HB2.out.size))
    clear hb3
    go_wp2_with fail
    exact bodyPost_ret (by kernel_rfl) rfl ⟨rfl, HF.out⟩
end Go.Proofs.YtbidhpgjmcedaaaGreatDoor
