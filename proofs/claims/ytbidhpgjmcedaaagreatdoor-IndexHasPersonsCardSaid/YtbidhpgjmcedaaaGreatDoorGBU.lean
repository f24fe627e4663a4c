/- Texts of this claim, put together: BsfTch, Numb. -/
import Derived.Test.YtbidhpgjmcedaaaGreatDoorGAB
import Derived.Test.YtbidhpgjmcedaaaGreatDoorGAC
import Derived.Test.YtbidhpgjmcedaaaGreatDoorGAM
import Derived.StillTailTactics
import Derived.Deep.Cut
import Derived.Test.YtbidhpgjmcedaaaGreatDoorGBP
import Derived.Test.YtbidhpgjmcedaaaGreatDoorGAD
namespace Go.Proofs.YtbidhpgjmcedaaaGreatDoor
set_option linter.unusedVariables false
open Go.RowKit
section
variable {D : Type}
set_option maxHeartbeats 1000000 in
set_option maxRecDepth 100000 in
theorem bsf_Tch (H : Frz) (f : D → Nat → Value) (kf : Nat) (tv : Value) (c : D → Int) (ds : List D) (hp : ∀ (W : World) (d : D), d ∈ ds → H.In W → Calls Tryz.prog kf #[.agg #[f d 0, f d 1, f d 2, f d 3, f d 4], tv] W fun e W' => e = .returned (.int .i64 (c d)) ∧ Below W.heap.size W W')
  (hcall : ∀ (a b : Value) (W : World), (callFunc kf #[a, b]).run Tryz.prog W = .ok (.enter kf #[a, b]) W)
  (A : Option Addr) (cap : Nat) (w : World) (hH : H.In w) (hR : Rw H A 5 f ds) (hl : ds.length ≤ 1000000) (m : Nat) (hm : m ≤ ds.length) (hlo : ∀ i (h : i < ds.length), i < m → c ds[i] < 0) (hhi : ∀ i (h : i < ds.length), m ≤ i → 0 ≤ c ds[i]) :
  Calls Tryz.prog 194 #[.slice A ds.length cap, tv, .func (.func kf) #[] #[]] w fun e w' => e = .returned (.tuple #[.int .i64 m, .bool (hasAt c ds m)]) ∧ Below w.heap.size w w' := by
 have HP := Lib.hid hp
 have HR := Lib.hid hR
 have HH := Lib.hid hH
 have HLO := Lib.hid hlo
 have HHI := Lib.hid hhi
 clear hp hR hH hlo hhi
 go_enter Tryz.func194, Tryz.ntmps194
 go_wp2_with fail
 go_loopw [9, 10, 11] (fun ti tj _ wr => ∃ i j : Nat, i ≤ m ∧ m ≤ j ∧ j ≤ ds.length ∧ ti = .int .i64 i ∧ tj = .int .i64 j ∧ Hid (Below w.heap.size w wr)) (fun ti tj _ _ => (intOf tj - intOf ti).toNat)
 case atStart => exact ⟨0, ds.length, by omega, by omega, by omega, rfl, rfl, Below.refl _ _⟩
 case round =>
  obtain ⟨i, j, hi, hj, hjl, rfl, rfl, hb⟩ := hrel
  by_cases hlt : i < j
  ·have e1 : IntKind.i64.wrap ((i : Int) + (j : Int)) = (i : Int) + (j : Int) := IntWalk.i64_in _ (by omega)
   obtain ⟨h, hh⟩ : ∃ h, h = (i + j) / 2 := ⟨_, rfl⟩
   have hhl : h < ds.length := by omega
   have hih : i ≤ h := by omega
   have hhj : h < j := by omega
   have k2 : ((i : Int) + (j : Int)) / 2 = (h : Int) := by omega
   obtain ⟨b, off, rfl, hbl, hc⟩ := HR.out.at_ (HH.out.below hb.out) hhl (by omega)
   have c0 : wr.cell? ⟨b, off + h * 5, none⟩ = some (f ds[h] 0) := hc 0 (by omega)
   have c1 : wr.cell? ⟨b, off + h * 5 + 1, none⟩ = some (f ds[h] 1) := hc 1 (by omega)
   have c2 : wr.cell? ⟨b, off + h * 5 + 2, none⟩ = some (f ds[h] 2) := hc 2 (by omega)
   have c3 : wr.cell? ⟨b, off + h * 5 + 3, none⟩ = some (f ds[h] 3) := hc 3 (by omega)
   have c4 : wr.cell? ⟨b, off + h * 5 + 4, none⟩ = some (f ds[h] 4) := hc 4 (by omega)
   have HC := Lib.hid (fun W hW => HP.out W ds[h] (List.getElem_mem hhl) hW)
   have HL := Lib.hid (HLO.out h hhl)
   have HU := Lib.hid (HHI.out h hhl)
   clear hc hh
   generalize hpd : c ds[h] = q at HC HL HU
   generalize f ds[h] 0 = x0 at c0 HC
   generalize f ds[h] 1 = x1 at c1 HC
   generalize f ds[h] 2 = x2 at c2 HC
   generalize f ds[h] 3 = x3 at c3 HC
   generalize f ds[h] 4 = x4 at c4 HC
   clear hpd
   go_wp2_with fail
   refine (HC.out _ (HH.out.below hb.out)).mono ?_
   rintro e w1 ⟨rfl, hb1⟩
   have hb2 := Lib.hid (hb.out.trans (hb1.mono hb.out.size))
   clear hb1 hb k2
   by_cases hq : q < 0
   ·have hhm : h < m := by
     apply Classical.byContradiction
     intro hn
     have := HU.out (by omega)
     omega
    go_wp2_with fail
    go_roundw
    case rel => exact ⟨h + 1, j, by omega, by omega, by omega, by go_num, rfl, hb2⟩
    case measure => simp [intOf]; omega
   ·have hhm : m ≤ h := by
     apply Classical.byContradiction
     intro hn
     exact hq (HL.out (by omega))
    go_wp2_with fail
    go_roundw
    case rel => exact ⟨i, h, by omega, by omega, by omega, rfl, rfl, hb2⟩
    case measure => simp [intOf]; omega
  ·have him : i = m := by omega
   subst him
   by_cases hml : i < ds.length
   ·have d1 : decide ((i : Int) < (ds.length : Int)) = true := by simpa using hml
    obtain ⟨b, off, rfl, hbl, hc⟩ := HR.out.at_ (HH.out.below hb.out) hml (by omega)
    have c0 : wr.cell? ⟨b, off + i * 5, none⟩ = some (f ds[i] 0) := hc 0 (by omega)
    have c1 : wr.cell? ⟨b, off + i * 5 + 1, none⟩ = some (f ds[i] 1) := hc 1 (by omega)
    have c2 : wr.cell? ⟨b, off + i * 5 + 2, none⟩ = some (f ds[i] 2) := hc 2 (by omega)
    have c3 : wr.cell? ⟨b, off + i * 5 + 3, none⟩ = some (f ds[i] 3) := hc 3 (by omega)
    have c4 : wr.cell? ⟨b, off + i * 5 + 4, none⟩ = some (f ds[i] 4) := hc 4 (by omega)
    have HC := Lib.hid (fun W hW => HP.out W ds[i] (List.getElem_mem hml) hW)
    have HV := Lib.hid (hasAt_lt (c := c) hml)
    clear hc
    generalize hpd : c ds[i] = q at HC HV
    generalize f ds[i] 0 = x0 at c0 HC
    generalize f ds[i] 1 = x1 at c1 HC
    generalize f ds[i] 2 = x2 at c2 HC
    generalize f ds[i] 3 = x3 at c3 HC
    generalize f ds[i] 4 = x4 at c4 HC
    clear hpd
    go_wp2_with fail
    refine (HC.out _ (HH.out.below hb.out)).mono ?_
    rintro e w1 ⟨rfl, hb1⟩
    have hb2 := Lib.hid (hb.out.trans (hb1.mono hb.out.size))
    clear hb1 hb
    go_wp2_with fail
    go_ret2
    exact ⟨by rw [HV.out]; simp, hb2.out⟩
   ·have hf := Lib.hid (hasAt_ge (c := c) (show ds.length ≤ i by omega))
    go_wp2_with fail
    go_ret2
    exact ⟨by rw [hf.out]; simp, hb.out⟩
end
open Go.RowKit
set_option maxHeartbeats 2000000 in
set_option maxRecDepth 100000 in
theorem numb1_any (t : TchD) (z : Int) (w : World) : Calls Tryz.prog 195 #[.agg #[.int .i64 t.no, .int .i64 t.at_, .string t.source, .slice t.ia t.ids.length t.ic, .slice t.fa t.fields.length t.fc], .int .i64 z] w fun e w' => e = .returned (.int .i64 (cmpI t.no z)) ∧ Below w.heap.size w w' := by
 have z0 : (w.alloc (.cells #[.int .i64 t.no, .int .i64 t.at_, .string t.source, .slice t.ia t.ids.length t.ic, .slice t.fa t.fields.length t.fc] 53)).cell? ⟨w.heap.size, 0, none⟩ = some (.int .i64 t.no) := newc 0 rfl
 have z1 : (w.alloc (.cells #[.int .i64 t.no, .int .i64 t.at_, .string t.source, .slice t.ia t.ids.length t.ic, .slice t.fa t.fields.length t.fc] 53)).cell? ⟨w.heap.size, 1, none⟩ = some (.int .i64 t.at_) := newc 1 rfl
 have z2 : (w.alloc (.cells #[.int .i64 t.no, .int .i64 t.at_, .string t.source, .slice t.ia t.ids.length t.ic, .slice t.fa t.fields.length t.fc] 53)).cell? ⟨w.heap.size, 2, none⟩ = some (.string t.source) := newc 2 rfl
 have z3 : (w.alloc (.cells #[.int .i64 t.no, .int .i64 t.at_, .string t.source, .slice t.ia t.ids.length t.ic, .slice t.fa t.fields.length t.fc] 53)).cell? ⟨w.heap.size, 3, none⟩ = some (.slice t.ia t.ids.length t.ic) := newc 3 rfl
 have z4 : (w.alloc (.cells #[.int .i64 t.no, .int .i64 t.at_, .string t.source, .slice t.ia t.ids.length t.ic, .slice t.fa t.fields.length t.fc] 53)).cell? ⟨w.heap.size, 4, none⟩ = some (.slice t.fa t.fields.length t.fc) := newc 4 rfl
 have HBN := Lib.hid (new1 (w := w) (.cells #[.int .i64 t.no, .int .i64 t.at_, .string t.source, .slice t.ia t.ids.length t.ic, .slice t.fa t.fields.length t.fc] 53))
 go_enter Tryz.func195, Tryz.ntmps195
 go_upto_region 1 with (fail)
 generalize w.alloc (.cells #[.int .i64 t.no, .int .i64 t.at_, .string t.source, .slice t.ia t.ids.length t.ic, .slice t.fa t.fields.length t.fc] 53) = W1 at *
 go_wp2_with fail
 refine (cmpInt_any t.no z _).mono ?_
 rintro e W2 ⟨rfl, rfl⟩
 clear z0 z1 z2 z3 z4
 go_wp2_with fail
 go_ret
 exact ⟨rfl, HBN.out⟩
set_option maxHeartbeats 2000000 in
set_option maxRecDepth 100000 in
theorem numbered_any (H : Frz) (A : Option Addr) (cap : Nat) (ts : List TchD) (z : Int) (w : World) (hH : H.In w) (hR : Rw H A 5 fTch ts) (hl : ts.length ≤ 1000000) (m : Nat) (hm : m ≤ ts.length) (hlo : ∀ i (h : i < ts.length), i < m → ts[i].no < z) (hhi : ∀ i (h : i < ts.length), m ≤ i → z ≤ ts[i].no) :
  Calls Tryz.prog 119 #[.slice A ts.length cap, .int .i64 z] w fun e w' => e = .returned (.tuple #[.int .i64 m, .bool (hasAt (fun t : TchD => cmpI t.no z) ts m)]) ∧ Below w.heap.size w w' := by
 have HBS := Lib.hid (bsf_Tch H fTch 195 (.int .i64 z) (fun t => cmpI t.no z) ts (fun W d _ _ => numb1_any d z W) (fun _ _ _ => by kernel_rfl) A cap w hH hR hl m hm (fun i h1 h2 => by have := hlo i h1 h2; unfold cmpI; rw [if_pos this]; decide) (fun i h1 h2 => by have := hhi i h1 h2; unfold cmpI; rw [if_neg (by omega)]; split <;> decide))
 clear hH hR hlo hhi
 go_enter Tryz.func119, Tryz.ntmps119
 go_wp2_with fail
 refine HBS.out.mono ?_
 rintro e W2 ⟨rfl, hb⟩
 have HB := Lib.hid hb
 clear hb HBS
 generalize hasAt (fun t : TchD => cmpI t.no z) ts m = q
 go_wp2_with fail
 exact bodyPost_ret (by kernel_rfl) rfl ⟨rfl, HB.out⟩
theorem numbered_at (H : Frz) (A : Option Addr) (cap : Nat) (ts : List TchD) (w : World) (hH : H.In w) (hR : Rw H A 5 fTch ts) (hl : ts.length ≤ 1000000) (hno : ts.Pairwise fun a b => a.no < b.no) (i : Nat) (hi : i < ts.length) :
  Calls Tryz.prog 119 #[.slice A ts.length cap, .int .i64 ts[i].no] w fun e w' => e = .returned (.tuple #[.int .i64 i, .bool true]) ∧ Below w.heap.size w w' := by
 have hp := List.pairwise_iff_getElem.1 hno
 refine (numbered_any H A cap ts ts[i].no w hH hR hl i (by omega) (fun j hj hji => hp j i hj hi hji) (fun j hj hij => ?_)).mono ?_
 ·rcases Nat.eq_or_lt_of_le hij with e | h
  ·subst e; exact Int.le_refl _
  ·exact Int.le_of_lt (hp i j hi hj h)
 ·rintro e w' ⟨rfl, hb⟩
  refine ⟨?_, hb⟩
  have : hasAt (fun t : TchD => cmpI t.no ts[i].no) ts i = true := by
   rw [hasAt_lt hi]
   simp [cmpI]
  rw [this]
end Go.Proofs.YtbidhpgjmcedaaaGreatDoor
