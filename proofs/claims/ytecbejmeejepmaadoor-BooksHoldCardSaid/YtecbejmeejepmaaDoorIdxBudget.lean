/- IndexFunc and ContainsFunc at elements of 5 cells. -/
import Derived.Test.YtecbejmeejepmaaDoorRow
import Derived.Test.YtecbejmeejepmaaDoorIdx
import Derived.StillTailTactics
import Derived.Deep.Cut
namespace Go.Proofs.YtecbejmeejepmaaDoor
set_option linter.unusedVariables false
open Go.RowKit

section
variable {D : Type}
set_option maxHeartbeats 1000000 in
theorem indexFunc_Budget (H : Frz) (f : D → Nat → Value) (kf : Nat) (caps : List Value) (p : D → Bool) (ds : List D) (hp : ∀ (W : World) (d : D), d ∈ ds → H.In W → Calls Tryd.prog kf ((.agg #[f d 0, f d 1, f d 2, f d 3, f d 4] : Value) :: caps).toArray W fun e W' => e = .returned (.bool (p d)) ∧ Below W.heap.size W W')
    (hcall : ∀ (a : Value) (W : World), (callFunc kf (a :: caps).toArray).run Tryd.prog W = .ok (.enter kf (a :: caps).toArray) W)
    (A : Option Addr) (cap : Nat) (w : World) (hH : H.In w) (hR : Rw H A 5 f ds) (hl : ds.length ≤ 1000000) :
    Calls Tryd.prog 71 #[.slice A ds.length cap, .func (.func kf) #[] caps.toArray] w fun e w' => e = .returned (.int .i64 (idxF p ds)) ∧ Below w.heap.size w w' := by
  have HP := Lib.hid hp
  have HR := Lib.hid hR
  have HH := Lib.hid hH
  clear hp hR hH
  go_enter Tryd.func71, Tryd.ntmps71
  go_wp2_with fail
  go_loopw [5, 8] (fun _ t wr => ∃ i : Nat, i ≤ ds.length ∧ t = .int .i64 i ∧ Hid ((ds.take i).any p = false) ∧ Hid (Below w.heap.size w wr)) (fun _ t _ => ds.length - (intOf t).toNat)
  case atStart => exact ⟨0, by omega, rfl, rfl, Below.refl _ _⟩
  case round =>
    obtain ⟨i, hi, rfl, hall, hb⟩ := hrel
    by_cases hlt : i < ds.length
    · obtain ⟨b, off, rfl, hbl, hc⟩ := HR.out.at_ (HH.out.below hb.out) hlt (by omega)
      have c0 : wr.cell? ⟨b, off + i * 5, none⟩ = some (f ds[i] 0) := hc 0 (by omega)
      have c1 : wr.cell? ⟨b, off + i * 5 + 1, none⟩ = some (f ds[i] 1) := hc 1 (by omega)
      have c2 : wr.cell? ⟨b, off + i * 5 + 2, none⟩ = some (f ds[i] 2) := hc 2 (by omega)
      have c3 : wr.cell? ⟨b, off + i * 5 + 3, none⟩ = some (f ds[i] 3) := hc 3 (by omega)
      have c4 : wr.cell? ⟨b, off + i * 5 + 4, none⟩ = some (f ds[i] 4) := hc 4 (by omega)
      have HC := Lib.hid (fun W hW => HP.out W ds[i] (List.getElem_mem hlt) hW)
      have ht := Lib.hid (idxF_found (p := p) hlt hall.out)
      have ht2 := Lib.hid (any_take_succ (p := p) hlt hall.out)
      clear hc
      generalize hpd : p ds[i] = q at HC ht ht2
      generalize f ds[i] 0 = x0 at c0 HC
      generalize f ds[i] 1 = x1 at c1 HC
      generalize f ds[i] 2 = x2 at c2 HC
      generalize f ds[i] 3 = x3 at c3 HC
      generalize f ds[i] 4 = x4 at c4 HC
      clear hpd
      go_wp2_with fail
      refine (HC.out _ (HH.out.below hb.out)).mono ?_
      rintro e w1 ⟨rfl, hb1⟩
      have hb2 := Lib.hid (hb.out.trans (hb1.mono hb.out.size))
      clear hb1 hb
      cases q with
      | true =>
        go_wp2_with fail
        go_ret
        exact ⟨ret_int (ht.out (by simp)).symm, hb2.out⟩
      | false =>
        go_wp2_with fail
        go_roundw
        case rel => exact ⟨i + 1, by omega, by go_num, ht2.out (by simp), hb2⟩
        case measure => simp [intOf]; omega
    · have hf := Lib.hid (idxF_none (p := p) (show ds.any p = false by have := hall.out; rwa [List.take_of_length_le (by omega)] at this))
      go_wp2_with fail
      go_ret
      exact ⟨ret_int hf.out.symm, hb.out⟩
set_option maxHeartbeats 1000000 in
theorem containsFunc_Budget (H : Frz) (f : D → Nat → Value) (kf : Nat) (caps : List Value) (p : D → Bool) (ds : List D) (hp : ∀ (W : World) (d : D), d ∈ ds → H.In W → Calls Tryd.prog kf ((.agg #[f d 0, f d 1, f d 2, f d 3, f d 4] : Value) :: caps).toArray W fun e W' => e = .returned (.bool (p d)) ∧ Below W.heap.size W W')
    (hcall : ∀ (a : Value) (W : World), (callFunc kf (a :: caps).toArray).run Tryd.prog W = .ok (.enter kf (a :: caps).toArray) W)
    (A : Option Addr) (cap : Nat) (w : World) (hH : H.In w) (hR : Rw H A 5 f ds) (hl : ds.length ≤ 1000000) :
    Calls Tryd.prog 46 #[.slice A ds.length cap, .func (.func kf) #[] caps.toArray] w fun e w' => e = .returned (.bool (anyF p ds)) ∧ Below w.heap.size w w' := by
  have HI := Lib.hid (indexFunc_Budget H f kf caps p ds hp hcall A cap w hH hR hl)
  have hx := Lib.hid (idxF_any p ds)
  clear hp hR hH hcall
  go_enter Tryd.func46, Tryd.ntmps46
  go_wp2_with fail
  refine HI.out.mono ?_
  rintro e w1 ⟨rfl, hb⟩
  generalize idxF p ds = n at hx
  have HB := Lib.hid hb
  clear hb
  go_wp2_with fail
  go_ret
  exact ⟨ret_bool' hx.out, HB.out⟩
end
end Go.Proofs.YtecbejmeejepmaaDoor
