/- Texts of this claim, put together: SortOf, PdqOf. -/
import Derived.Test.YtihcmifikbkbcaaGreatPA
import Derived.StillTailTactics
import Derived.Deep.Cut
import Derived.Test.YtihcmifikbkbcaaGreatShelf
/- Sorting elements of 12 cells. -/
namespace Go.Proofs.YtihcmifikbkbcaaGreat
set_option linter.unusedVariables false
open Go.RowKit

section
variable {D : Type}
/-- What a comparison does. -/
def CmpK_Of (H : Frz) (f : D → Nat → Value) (kf : Nat) (caps : List Value) (c : D → D → Int) (ds : List D) : Prop :=
  ∀ (W : World) (a b : D), H.In W → a ∈ ds → b ∈ ds → Calls Tryz.prog kf ((.agg #[f a 0, f a 1, f a 2, f a 3, f a 4, f a 5, f a 6, f a 7, f a 8, f a 9, f a 10, f a 11] : Value) :: (.agg #[f b 0, f b 1, f b 2, f b 3, f b 4, f b 5, f b 6, f b 7, f b 8, f b 9, f b 10, f b 11] : Value) :: caps).toArray W fun e W' => e = .returned (.int .i64 (c a b)) ∧ Below W.heap.size W W'
/-- The sort's state. -/
def SW_Of (H : Frz) (g T k : Nat) (f : D → Nat → Value) (rest : List Value) (w : World) (ys : List D) (wr : World) : Prop := KBlk wr g T k f ys rest ∧ w.grownBy wr (some g) ∧ H.In wr
theorem SW_mk_Of {H : Frz} {g T k : Nat} {f : D → Nat → Value} {rest : List Value} {w : World} {ys : List D} {W : World} (h1 : KBlk W g T k f ys rest) (h2 : w.grownBy W (some g)) (h3 : H.In W) : Hid (SW_Of H g T k f rest w ys W.drew) := ⟨h1, grown_drew h2, h3⟩

set_option maxHeartbeats 4000000 in
set_option maxRecDepth 100000 in
theorem insort_Of (H : Frz) (f : D → Nat → Value) (kf : Nat) (caps : List Value) (c : D → D → Int) (ds : List D) (hf1 : ∀ d ∈ ds, ∀ m, (f d m).oneCell' = true) (hcmp : CmpK_Of H f kf caps c ds) (hcall : ∀ (a b : Value) (W : World), (callFunc kf (a :: b :: caps).toArray).run Tryz.prog W = .ok (.enter kf (a :: b :: caps).toArray) W) (g n cap : Nat) (rest : List Value) (w : World)
    (hn : ds.length = n) (hcap : n ≤ cap) (hn12 : n ≤ 1000) (hH : H.In w) (hg : H g = none) (hB : KBlk w g 50 12 f ds rest) :
    Calls Tryz.prog 117 #[.slice (some ⟨g, 0, none⟩) n cap, .int .i64 0, .int .i64 n, .func (.func kf) #[] caps.toArray] w fun e w' =>
      e = .returned (.tuple #[]) ∧ SW_Of H g 50 12 f rest w (isort (fun a b => decide (c a b < 0)) ds) w' := by
  have HC := Lib.hid hcmp
  have HN := Lib.hid hn
  have J0 : Hid (SW_Of H g 50 12 f rest w ds w) := ⟨hB, World.grownBy.refl _ _, hH⟩
  have HF1 := Lib.hid hf1
  clear hcmp hH hB hn hf1
  go_enter Tryz.func117, Tryz.ntmps117
  go_wp2_with fail
  go_loopw [8] (fun t wr => ∃ (i : Nat) (ys : List D), 1 ≤ i ∧ (i ≤ n ∨ n = 0 ∧ i = 1) ∧ t = .int .i64 i ∧ Hid (ys = isort (fun a b => decide (c a b < 0)) (ds.take i) ++ ds.drop i) ∧ Hid (SW_Of H g 50 12 f rest w ys wr)) (fun t _ => n + 1 - (intOf t).toNat)
  case atStart =>
    refine ⟨1, ds, by omega, by omega, rfl, ?_, J0⟩
    show ds = _
    cases ds with
    | nil => rfl
    | cons d ds => simp [isort, insLast]
  case round =>
    obtain ⟨i, ys, hi1, hi2, rfl, hys, J⟩ := hrel
    by_cases hlt : i < n
    · have hil : i < ds.length := by rw [HN.out]; exact hlt
      have hdr := List.drop_eq_getElem_cons hil
      have hx : Hid (∀ d, d ∈ isort (fun a b => decide (c a b < 0)) (ds.take i) → d ∈ ds) := fun d hd => List.mem_of_mem_take ((isort_perm _ _).mem_iff.1 hd)
      have hxm := Lib.hid (List.getElem_mem hil)
      have hR : Hid (∀ d, d ∈ ds.drop (i + 1) → d ∈ ds) := fun d hd => List.mem_of_mem_drop hd
      have hacl : (isort (fun a b => decide (c a b < 0)) (ds.take i)).length = i := by rw [isort_length, List.length_take]; omega
      have hRl : (ds.drop (i + 1)).length = n - (i + 1) := by rw [List.length_drop, HN.out]
      have hstep : Hid (isort (fun a b => decide (c a b < 0)) (ds.take (i + 1)) = insLast (fun a b => decide (c a b < 0)) ds[i] (isort (fun a b => decide (c a b < 0)) (ds.take i))) := by
        show _ = _
        rw [List.take_succ_eq_append_getElem hil, isort_snoc]
      have hys2 := hys.out
      rw [hdr] at hys2
      generalize isort (fun a b => decide (c a b < 0)) (ds.take i) = acc at hx hacl hstep hys2
      generalize hR' : ds.drop (i + 1) = R at hR hRl hys2
      have HRR := Lib.hid hR'
      generalize ds[i] = x at hxm hstep hys2
      have S0 : Hid (SIn (fun a b => decide (c a b < 0)) acc x R i ys) := by
        have := SIn.start (lt := fun a b => decide (c a b < 0)) acc R x
        rw [hacl, ← hys2] at this
        exact this
      have HACL := Lib.hid hacl
      have HRL := Lib.hid hRl
      clear hdr hys hys2 hR' hacl hRl J0
      obtain ⟨wo, rfl⟩ : ∃ wo : World, wo = wr := ⟨_, rfl⟩
      go_wp2_with fail
      go_loopw [9] (fun t wi => ∃ (j : Nat) (zs : List D), j ≤ i ∧ t = .int .i64 j ∧ Hid (SIn (fun a b => decide (c a b < 0)) acc x R j zs) ∧ Hid (SW_Of H g 50 12 f rest w zs wi)) (fun t _ => (intOf t).toNat)
      case atStart => exact ⟨i, ys, by omega, rfl, S0, J⟩
      case round =>
        obtain ⟨j, zs, hj, rfl, SI, Ji⟩ := hrel
        clear S0 J
        have hzl : zs.length = n := by have := SI.out.length.1; rw [HACL.out, HRL.out] at this; omega
        by_cases hj0 : 0 < j
        · have hjn : j < zs.length := by omega
          have hj1n : j - 1 < zs.length := by omega
          have hzj : zs[j] = x := SI.out.at_ hjn
          have cj0 : wr.cell? ⟨g, j * 12, none⟩ = some (f zs[j] 0) := Ji.out.1.cell (j) 0 (hjn) (by omega)
          have cj1 : wr.cell? ⟨g, j * 12 + 1, none⟩ = some (f zs[j] 1) := Ji.out.1.cell (j) 1 (hjn) (by omega)
          have cj2 : wr.cell? ⟨g, j * 12 + 2, none⟩ = some (f zs[j] 2) := Ji.out.1.cell (j) 2 (hjn) (by omega)
          have cj3 : wr.cell? ⟨g, j * 12 + 3, none⟩ = some (f zs[j] 3) := Ji.out.1.cell (j) 3 (hjn) (by omega)
          have cj4 : wr.cell? ⟨g, j * 12 + 4, none⟩ = some (f zs[j] 4) := Ji.out.1.cell (j) 4 (hjn) (by omega)
          have cj5 : wr.cell? ⟨g, j * 12 + 5, none⟩ = some (f zs[j] 5) := Ji.out.1.cell (j) 5 (hjn) (by omega)
          have cj6 : wr.cell? ⟨g, j * 12 + 6, none⟩ = some (f zs[j] 6) := Ji.out.1.cell (j) 6 (hjn) (by omega)
          have cj7 : wr.cell? ⟨g, j * 12 + 7, none⟩ = some (f zs[j] 7) := Ji.out.1.cell (j) 7 (hjn) (by omega)
          have cj8 : wr.cell? ⟨g, j * 12 + 8, none⟩ = some (f zs[j] 8) := Ji.out.1.cell (j) 8 (hjn) (by omega)
          have cj9 : wr.cell? ⟨g, j * 12 + 9, none⟩ = some (f zs[j] 9) := Ji.out.1.cell (j) 9 (hjn) (by omega)
          have cj10 : wr.cell? ⟨g, j * 12 + 10, none⟩ = some (f zs[j] 10) := Ji.out.1.cell (j) 10 (hjn) (by omega)
          have cj11 : wr.cell? ⟨g, j * 12 + 11, none⟩ = some (f zs[j] 11) := Ji.out.1.cell (j) 11 (hjn) (by omega)
          have dj0 : wr.cell? ⟨g, (j - 1) * 12, none⟩ = some (f zs[j - 1] 0) := Ji.out.1.cell (j - 1) 0 (hj1n) (by omega)
          have dj1 : wr.cell? ⟨g, (j - 1) * 12 + 1, none⟩ = some (f zs[j - 1] 1) := Ji.out.1.cell (j - 1) 1 (hj1n) (by omega)
          have dj2 : wr.cell? ⟨g, (j - 1) * 12 + 2, none⟩ = some (f zs[j - 1] 2) := Ji.out.1.cell (j - 1) 2 (hj1n) (by omega)
          have dj3 : wr.cell? ⟨g, (j - 1) * 12 + 3, none⟩ = some (f zs[j - 1] 3) := Ji.out.1.cell (j - 1) 3 (hj1n) (by omega)
          have dj4 : wr.cell? ⟨g, (j - 1) * 12 + 4, none⟩ = some (f zs[j - 1] 4) := Ji.out.1.cell (j - 1) 4 (hj1n) (by omega)
          have dj5 : wr.cell? ⟨g, (j - 1) * 12 + 5, none⟩ = some (f zs[j - 1] 5) := Ji.out.1.cell (j - 1) 5 (hj1n) (by omega)
          have dj6 : wr.cell? ⟨g, (j - 1) * 12 + 6, none⟩ = some (f zs[j - 1] 6) := Ji.out.1.cell (j - 1) 6 (hj1n) (by omega)
          have dj7 : wr.cell? ⟨g, (j - 1) * 12 + 7, none⟩ = some (f zs[j - 1] 7) := Ji.out.1.cell (j - 1) 7 (hj1n) (by omega)
          have dj8 : wr.cell? ⟨g, (j - 1) * 12 + 8, none⟩ = some (f zs[j - 1] 8) := Ji.out.1.cell (j - 1) 8 (hj1n) (by omega)
          have dj9 : wr.cell? ⟨g, (j - 1) * 12 + 9, none⟩ = some (f zs[j - 1] 9) := Ji.out.1.cell (j - 1) 9 (hj1n) (by omega)
          have dj10 : wr.cell? ⟨g, (j - 1) * 12 + 10, none⟩ = some (f zs[j - 1] 10) := Ji.out.1.cell (j - 1) 10 (hj1n) (by omega)
          have dj11 : wr.cell? ⟨g, (j - 1) * 12 + 11, none⟩ = some (f zs[j - 1] 11) := Ji.out.1.cell (j - 1) 11 (hj1n) (by omega)
          rw [hzj] at cj0 cj1 cj2 cj3 cj4 cj5 cj6 cj7 cj8 cj9 cj10 cj11
          have hmy : Hid (zs[j - 1] ∈ ds) := by
            rcases SI.out.mem (List.getElem_mem hj1n) with h | h | h
            · exact hx.out _ h
            · show _ ∈ _; rw [h]; exact hxm.out
            · exact hR.out _ h
          have hsw := Lib.hid (fun h => SI.out.swap hj0 hjn h)
          have hdn := Lib.hid (fun (h : (fun a b => decide (c a b < 0)) x zs[j - 1] = false) => SI.out.done SI.out.length.1 (fun _ => h))
          generalize hyy : zs[j - 1] = y at dj0 dj1 dj2 dj3 dj4 dj5 dj6 dj7 dj8 dj9 dj10 dj11 hmy hsw hdn
          have HYY : Hid (∀ h : j - 1 < zs.length, zs[j - 1]'h = y) := fun _ => hyy
          have e1 : ((j : Int) - 1).toNat = j - 1 := by omega
          have e2 : IntKind.i64.wrap ((j : Int) - 1) = (j : Int) - 1 := IntWalk.i64_in _ (by omega)
          have e3 : (0 : Int) ≤ (j : Int) - 1 := by omega
          have e4 : (j : Int) - 1 < n := by omega
          have e5 : (j : Int) < n := by omega
          have e6 : 1 ≤ j := by omega
          have e7 : (1 : Int) ≤ (j : Int) := by omega
          have e8 : (j : Int) ≤ n := by omega
          have e9 : j ≤ n := by omega
          have e10 : (0 : Int) < (j : Int) := by omega
          have HZL := Lib.hid hzl
          clear hyy hzj hzl hjn hj1n
          go_wp2_with fail
          go_still_tail 14, (by kernel_rfl)
          change wpList _ _ _ _ _ wr.drew
          clear e1 e2
          go_wp2_with fail
          refine (HC.out wr.drew x y Ji.out.2.2 hxm.out hmy.out).mono ?_
          rintro e w1 ⟨rfl, hb1⟩
          have hb : Below wr.heap.size wr w1 := (Below.refl _ wr).drew.trans hb1
          have Z3 := Ji.out.1.keep hb
          have Z4 := Lib.hid (grown_below Ji.out.2.1 hb)
          have Z5 := Lib.hid (Ji.out.2.2.below hb)
          have hjn : j < zs.length := by rw [HZL.out]; omega
          clear cj0 dj0 cj1 dj1 cj2 dj2 cj3 dj3 cj4 dj4 cj5 dj5 cj6 dj6 cj7 dj7 cj8 dj8 cj9 dj9 cj10 dj10 cj11 dj11
          have hj1n : j - 1 < zs.length := by rw [HZL.out]; omega
          have hzj : zs[j] = x := SI.out.at_ hjn
          have cj0 : w1.cell? ⟨g, j * 12, none⟩ = some (f zs[j] 0) := Z3.cell (j) 0 (hjn) (by omega)
          have cj1 : w1.cell? ⟨g, j * 12 + 1, none⟩ = some (f zs[j] 1) := Z3.cell (j) 1 (hjn) (by omega)
          have cj2 : w1.cell? ⟨g, j * 12 + 2, none⟩ = some (f zs[j] 2) := Z3.cell (j) 2 (hjn) (by omega)
          have cj3 : w1.cell? ⟨g, j * 12 + 3, none⟩ = some (f zs[j] 3) := Z3.cell (j) 3 (hjn) (by omega)
          have cj4 : w1.cell? ⟨g, j * 12 + 4, none⟩ = some (f zs[j] 4) := Z3.cell (j) 4 (hjn) (by omega)
          have cj5 : w1.cell? ⟨g, j * 12 + 5, none⟩ = some (f zs[j] 5) := Z3.cell (j) 5 (hjn) (by omega)
          have cj6 : w1.cell? ⟨g, j * 12 + 6, none⟩ = some (f zs[j] 6) := Z3.cell (j) 6 (hjn) (by omega)
          have cj7 : w1.cell? ⟨g, j * 12 + 7, none⟩ = some (f zs[j] 7) := Z3.cell (j) 7 (hjn) (by omega)
          have cj8 : w1.cell? ⟨g, j * 12 + 8, none⟩ = some (f zs[j] 8) := Z3.cell (j) 8 (hjn) (by omega)
          have cj9 : w1.cell? ⟨g, j * 12 + 9, none⟩ = some (f zs[j] 9) := Z3.cell (j) 9 (hjn) (by omega)
          have cj10 : w1.cell? ⟨g, j * 12 + 10, none⟩ = some (f zs[j] 10) := Z3.cell (j) 10 (hjn) (by omega)
          have cj11 : w1.cell? ⟨g, j * 12 + 11, none⟩ = some (f zs[j] 11) := Z3.cell (j) 11 (hjn) (by omega)
          have dj0 : w1.cell? ⟨g, (j - 1) * 12, none⟩ = some (f zs[j - 1] 0) := Z3.cell (j - 1) 0 (hj1n) (by omega)
          have dj1 : w1.cell? ⟨g, (j - 1) * 12 + 1, none⟩ = some (f zs[j - 1] 1) := Z3.cell (j - 1) 1 (hj1n) (by omega)
          have dj2 : w1.cell? ⟨g, (j - 1) * 12 + 2, none⟩ = some (f zs[j - 1] 2) := Z3.cell (j - 1) 2 (hj1n) (by omega)
          have dj3 : w1.cell? ⟨g, (j - 1) * 12 + 3, none⟩ = some (f zs[j - 1] 3) := Z3.cell (j - 1) 3 (hj1n) (by omega)
          have dj4 : w1.cell? ⟨g, (j - 1) * 12 + 4, none⟩ = some (f zs[j - 1] 4) := Z3.cell (j - 1) 4 (hj1n) (by omega)
          have dj5 : w1.cell? ⟨g, (j - 1) * 12 + 5, none⟩ = some (f zs[j - 1] 5) := Z3.cell (j - 1) 5 (hj1n) (by omega)
          have dj6 : w1.cell? ⟨g, (j - 1) * 12 + 6, none⟩ = some (f zs[j - 1] 6) := Z3.cell (j - 1) 6 (hj1n) (by omega)
          have dj7 : w1.cell? ⟨g, (j - 1) * 12 + 7, none⟩ = some (f zs[j - 1] 7) := Z3.cell (j - 1) 7 (hj1n) (by omega)
          have dj8 : w1.cell? ⟨g, (j - 1) * 12 + 8, none⟩ = some (f zs[j - 1] 8) := Z3.cell (j - 1) 8 (hj1n) (by omega)
          have dj9 : w1.cell? ⟨g, (j - 1) * 12 + 9, none⟩ = some (f zs[j - 1] 9) := Z3.cell (j - 1) 9 (hj1n) (by omega)
          have dj10 : w1.cell? ⟨g, (j - 1) * 12 + 10, none⟩ = some (f zs[j - 1] 10) := Z3.cell (j - 1) 10 (hj1n) (by omega)
          have dj11 : w1.cell? ⟨g, (j - 1) * 12 + 11, none⟩ = some (f zs[j - 1] 11) := Z3.cell (j - 1) 11 (hj1n) (by omega)
          have fj0 := Z3.frozen (j * 12)
          have fj1 := Z3.frozen (j * 12 + 1)
          have fj2 := Z3.frozen (j * 12 + 2)
          have fj3 := Z3.frozen (j * 12 + 3)
          have fj4 := Z3.frozen (j * 12 + 4)
          have fj5 := Z3.frozen (j * 12 + 5)
          have fj6 := Z3.frozen (j * 12 + 6)
          have fj7 := Z3.frozen (j * 12 + 7)
          have fj8 := Z3.frozen (j * 12 + 8)
          have fj9 := Z3.frozen (j * 12 + 9)
          have fj10 := Z3.frozen (j * 12 + 10)
          have fj11 := Z3.frozen (j * 12 + 11)
          have gj0 := Z3.frozen ((j - 1) * 12)
          have gj1 := Z3.frozen ((j - 1) * 12 + 1)
          have gj2 := Z3.frozen ((j - 1) * 12 + 2)
          have gj3 := Z3.frozen ((j - 1) * 12 + 3)
          have gj4 := Z3.frozen ((j - 1) * 12 + 4)
          have gj5 := Z3.frozen ((j - 1) * 12 + 5)
          have gj6 := Z3.frozen ((j - 1) * 12 + 6)
          have gj7 := Z3.frozen ((j - 1) * 12 + 7)
          have gj8 := Z3.frozen ((j - 1) * 12 + 8)
          have gj9 := Z3.frozen ((j - 1) * 12 + 9)
          have gj10 := Z3.frozen ((j - 1) * 12 + 10)
          have gj11 := Z3.frozen ((j - 1) * 12 + 11)
          rw [hzj] at cj0 cj1 cj2 cj3 cj4 cj5 cj6 cj7 cj8 cj9 cj10 cj11
          rw [HYY.out hj1n] at dj0 dj1 dj2 dj3 dj4 dj5 dj6 dj7 dj8 dj9 dj10 dj11
          have ZP := Lib.hid ((Z3.put j hjn y).put (j - 1) (by simp; omega) x)
          have Z3h := Lib.hid Z3
          clear Z3 hb hb1 Ji hjn hj1n hzj HYY
          by_cases hr : c x y < 0
          · have JS := Lib.hid (hsw.out (by simpa using hr))
            have na0 : ¬ j * 12 = (j - 1) * 12 := by omega
            have nb0 : ¬ (j - 1) * 12 = j * 12 := by omega
            have na1 : ¬ j * 12 = (j - 1) * 12 + 1 := by omega
            have nb1 : ¬ (j - 1) * 12 + 1 = j * 12 := by omega
            have na2 : ¬ j * 12 = (j - 1) * 12 + 2 := by omega
            have nb2 : ¬ (j - 1) * 12 + 2 = j * 12 := by omega
            have na3 : ¬ j * 12 = (j - 1) * 12 + 3 := by omega
            have nb3 : ¬ (j - 1) * 12 + 3 = j * 12 := by omega
            have na4 : ¬ j * 12 = (j - 1) * 12 + 4 := by omega
            have nb4 : ¬ (j - 1) * 12 + 4 = j * 12 := by omega
            have na5 : ¬ j * 12 = (j - 1) * 12 + 5 := by omega
            have nb5 : ¬ (j - 1) * 12 + 5 = j * 12 := by omega
            have na6 : ¬ j * 12 = (j - 1) * 12 + 6 := by omega
            have nb6 : ¬ (j - 1) * 12 + 6 = j * 12 := by omega
            have na7 : ¬ j * 12 = (j - 1) * 12 + 7 := by omega
            have nb7 : ¬ (j - 1) * 12 + 7 = j * 12 := by omega
            have na8 : ¬ j * 12 = (j - 1) * 12 + 8 := by omega
            have nb8 : ¬ (j - 1) * 12 + 8 = j * 12 := by omega
            have na9 : ¬ j * 12 = (j - 1) * 12 + 9 := by omega
            have nb9 : ¬ (j - 1) * 12 + 9 = j * 12 := by omega
            have na10 : ¬ j * 12 = (j - 1) * 12 + 10 := by omega
            have nb10 : ¬ (j - 1) * 12 + 10 = j * 12 := by omega
            have na11 : ¬ j * 12 = (j - 1) * 12 + 11 := by omega
            have nb11 : ¬ (j - 1) * 12 + 11 = j * 12 := by omega
            have na12 : ¬ j * 12 + 1 = (j - 1) * 12 := by omega
            have nb12 : ¬ (j - 1) * 12 = j * 12 + 1 := by omega
            have na13 : ¬ j * 12 + 1 = (j - 1) * 12 + 1 := by omega
            have nb13 : ¬ (j - 1) * 12 + 1 = j * 12 + 1 := by omega
            have na14 : ¬ j * 12 + 1 = (j - 1) * 12 + 2 := by omega
            have nb14 : ¬ (j - 1) * 12 + 2 = j * 12 + 1 := by omega
            have na15 : ¬ j * 12 + 1 = (j - 1) * 12 + 3 := by omega
            have nb15 : ¬ (j - 1) * 12 + 3 = j * 12 + 1 := by omega
            have na16 : ¬ j * 12 + 1 = (j - 1) * 12 + 4 := by omega
            have nb16 : ¬ (j - 1) * 12 + 4 = j * 12 + 1 := by omega
            have na17 : ¬ j * 12 + 1 = (j - 1) * 12 + 5 := by omega
            have nb17 : ¬ (j - 1) * 12 + 5 = j * 12 + 1 := by omega
            have na18 : ¬ j * 12 + 1 = (j - 1) * 12 + 6 := by omega
            have nb18 : ¬ (j - 1) * 12 + 6 = j * 12 + 1 := by omega
            have na19 : ¬ j * 12 + 1 = (j - 1) * 12 + 7 := by omega
            have nb19 : ¬ (j - 1) * 12 + 7 = j * 12 + 1 := by omega
            have na20 : ¬ j * 12 + 1 = (j - 1) * 12 + 8 := by omega
            have nb20 : ¬ (j - 1) * 12 + 8 = j * 12 + 1 := by omega
            have na21 : ¬ j * 12 + 1 = (j - 1) * 12 + 9 := by omega
            have nb21 : ¬ (j - 1) * 12 + 9 = j * 12 + 1 := by omega
            have na22 : ¬ j * 12 + 1 = (j - 1) * 12 + 10 := by omega
            have nb22 : ¬ (j - 1) * 12 + 10 = j * 12 + 1 := by omega
            have na23 : ¬ j * 12 + 1 = (j - 1) * 12 + 11 := by omega
            have nb23 : ¬ (j - 1) * 12 + 11 = j * 12 + 1 := by omega
            have na24 : ¬ j * 12 + 2 = (j - 1) * 12 := by omega
            have nb24 : ¬ (j - 1) * 12 = j * 12 + 2 := by omega
            have na25 : ¬ j * 12 + 2 = (j - 1) * 12 + 1 := by omega
            have nb25 : ¬ (j - 1) * 12 + 1 = j * 12 + 2 := by omega
            have na26 : ¬ j * 12 + 2 = (j - 1) * 12 + 2 := by omega
            have nb26 : ¬ (j - 1) * 12 + 2 = j * 12 + 2 := by omega
            have na27 : ¬ j * 12 + 2 = (j - 1) * 12 + 3 := by omega
            have nb27 : ¬ (j - 1) * 12 + 3 = j * 12 + 2 := by omega
            have na28 : ¬ j * 12 + 2 = (j - 1) * 12 + 4 := by omega
            have nb28 : ¬ (j - 1) * 12 + 4 = j * 12 + 2 := by omega
            have na29 : ¬ j * 12 + 2 = (j - 1) * 12 + 5 := by omega
            have nb29 : ¬ (j - 1) * 12 + 5 = j * 12 + 2 := by omega
            have na30 : ¬ j * 12 + 2 = (j - 1) * 12 + 6 := by omega
            have nb30 : ¬ (j - 1) * 12 + 6 = j * 12 + 2 := by omega
            have na31 : ¬ j * 12 + 2 = (j - 1) * 12 + 7 := by omega
            have nb31 : ¬ (j - 1) * 12 + 7 = j * 12 + 2 := by omega
            have na32 : ¬ j * 12 + 2 = (j - 1) * 12 + 8 := by omega
            have nb32 : ¬ (j - 1) * 12 + 8 = j * 12 + 2 := by omega
            have na33 : ¬ j * 12 + 2 = (j - 1) * 12 + 9 := by omega
            have nb33 : ¬ (j - 1) * 12 + 9 = j * 12 + 2 := by omega
            have na34 : ¬ j * 12 + 2 = (j - 1) * 12 + 10 := by omega
            have nb34 : ¬ (j - 1) * 12 + 10 = j * 12 + 2 := by omega
            have na35 : ¬ j * 12 + 2 = (j - 1) * 12 + 11 := by omega
            have nb35 : ¬ (j - 1) * 12 + 11 = j * 12 + 2 := by omega
            have na36 : ¬ j * 12 + 3 = (j - 1) * 12 := by omega
            have nb36 : ¬ (j - 1) * 12 = j * 12 + 3 := by omega
            have na37 : ¬ j * 12 + 3 = (j - 1) * 12 + 1 := by omega
            have nb37 : ¬ (j - 1) * 12 + 1 = j * 12 + 3 := by omega
            have na38 : ¬ j * 12 + 3 = (j - 1) * 12 + 2 := by omega
            have nb38 : ¬ (j - 1) * 12 + 2 = j * 12 + 3 := by omega
            have na39 : ¬ j * 12 + 3 = (j - 1) * 12 + 3 := by omega
            have nb39 : ¬ (j - 1) * 12 + 3 = j * 12 + 3 := by omega
            have na40 : ¬ j * 12 + 3 = (j - 1) * 12 + 4 := by omega
            have nb40 : ¬ (j - 1) * 12 + 4 = j * 12 + 3 := by omega
            have na41 : ¬ j * 12 + 3 = (j - 1) * 12 + 5 := by omega
            have nb41 : ¬ (j - 1) * 12 + 5 = j * 12 + 3 := by omega
            have na42 : ¬ j * 12 + 3 = (j - 1) * 12 + 6 := by omega
            have nb42 : ¬ (j - 1) * 12 + 6 = j * 12 + 3 := by omega
            have na43 : ¬ j * 12 + 3 = (j - 1) * 12 + 7 := by omega
            have nb43 : ¬ (j - 1) * 12 + 7 = j * 12 + 3 := by omega
            have na44 : ¬ j * 12 + 3 = (j - 1) * 12 + 8 := by omega
            have nb44 : ¬ (j - 1) * 12 + 8 = j * 12 + 3 := by omega
            have na45 : ¬ j * 12 + 3 = (j - 1) * 12 + 9 := by omega
            have nb45 : ¬ (j - 1) * 12 + 9 = j * 12 + 3 := by omega
            have na46 : ¬ j * 12 + 3 = (j - 1) * 12 + 10 := by omega
            have nb46 : ¬ (j - 1) * 12 + 10 = j * 12 + 3 := by omega
            have na47 : ¬ j * 12 + 3 = (j - 1) * 12 + 11 := by omega
            have nb47 : ¬ (j - 1) * 12 + 11 = j * 12 + 3 := by omega
            have na48 : ¬ j * 12 + 4 = (j - 1) * 12 := by omega
            have nb48 : ¬ (j - 1) * 12 = j * 12 + 4 := by omega
            have na49 : ¬ j * 12 + 4 = (j - 1) * 12 + 1 := by omega
            have nb49 : ¬ (j - 1) * 12 + 1 = j * 12 + 4 := by omega
            have na50 : ¬ j * 12 + 4 = (j - 1) * 12 + 2 := by omega
            have nb50 : ¬ (j - 1) * 12 + 2 = j * 12 + 4 := by omega
            have na51 : ¬ j * 12 + 4 = (j - 1) * 12 + 3 := by omega
            have nb51 : ¬ (j - 1) * 12 + 3 = j * 12 + 4 := by omega
            have na52 : ¬ j * 12 + 4 = (j - 1) * 12 + 4 := by omega
            have nb52 : ¬ (j - 1) * 12 + 4 = j * 12 + 4 := by omega
            have na53 : ¬ j * 12 + 4 = (j - 1) * 12 + 5 := by omega
            have nb53 : ¬ (j - 1) * 12 + 5 = j * 12 + 4 := by omega
            have na54 : ¬ j * 12 + 4 = (j - 1) * 12 + 6 := by omega
            have nb54 : ¬ (j - 1) * 12 + 6 = j * 12 + 4 := by omega
            have na55 : ¬ j * 12 + 4 = (j - 1) * 12 + 7 := by omega
            have nb55 : ¬ (j - 1) * 12 + 7 = j * 12 + 4 := by omega
            have na56 : ¬ j * 12 + 4 = (j - 1) * 12 + 8 := by omega
            have nb56 : ¬ (j - 1) * 12 + 8 = j * 12 + 4 := by omega
            have na57 : ¬ j * 12 + 4 = (j - 1) * 12 + 9 := by omega
            have nb57 : ¬ (j - 1) * 12 + 9 = j * 12 + 4 := by omega
            have na58 : ¬ j * 12 + 4 = (j - 1) * 12 + 10 := by omega
            have nb58 : ¬ (j - 1) * 12 + 10 = j * 12 + 4 := by omega
            have na59 : ¬ j * 12 + 4 = (j - 1) * 12 + 11 := by omega
            have nb59 : ¬ (j - 1) * 12 + 11 = j * 12 + 4 := by omega
            have na60 : ¬ j * 12 + 5 = (j - 1) * 12 := by omega
            have nb60 : ¬ (j - 1) * 12 = j * 12 + 5 := by omega
            have na61 : ¬ j * 12 + 5 = (j - 1) * 12 + 1 := by omega
            have nb61 : ¬ (j - 1) * 12 + 1 = j * 12 + 5 := by omega
            have na62 : ¬ j * 12 + 5 = (j - 1) * 12 + 2 := by omega
            have nb62 : ¬ (j - 1) * 12 + 2 = j * 12 + 5 := by omega
            have na63 : ¬ j * 12 + 5 = (j - 1) * 12 + 3 := by omega
            have nb63 : ¬ (j - 1) * 12 + 3 = j * 12 + 5 := by omega
            have na64 : ¬ j * 12 + 5 = (j - 1) * 12 + 4 := by omega
            have nb64 : ¬ (j - 1) * 12 + 4 = j * 12 + 5 := by omega
            have na65 : ¬ j * 12 + 5 = (j - 1) * 12 + 5 := by omega
            have nb65 : ¬ (j - 1) * 12 + 5 = j * 12 + 5 := by omega
            have na66 : ¬ j * 12 + 5 = (j - 1) * 12 + 6 := by omega
            have nb66 : ¬ (j - 1) * 12 + 6 = j * 12 + 5 := by omega
            have na67 : ¬ j * 12 + 5 = (j - 1) * 12 + 7 := by omega
            have nb67 : ¬ (j - 1) * 12 + 7 = j * 12 + 5 := by omega
            have na68 : ¬ j * 12 + 5 = (j - 1) * 12 + 8 := by omega
            have nb68 : ¬ (j - 1) * 12 + 8 = j * 12 + 5 := by omega
            have na69 : ¬ j * 12 + 5 = (j - 1) * 12 + 9 := by omega
            have nb69 : ¬ (j - 1) * 12 + 9 = j * 12 + 5 := by omega
            have na70 : ¬ j * 12 + 5 = (j - 1) * 12 + 10 := by omega
            have nb70 : ¬ (j - 1) * 12 + 10 = j * 12 + 5 := by omega
            have na71 : ¬ j * 12 + 5 = (j - 1) * 12 + 11 := by omega
            have nb71 : ¬ (j - 1) * 12 + 11 = j * 12 + 5 := by omega
            have na72 : ¬ j * 12 + 6 = (j - 1) * 12 := by omega
            have nb72 : ¬ (j - 1) * 12 = j * 12 + 6 := by omega
            have na73 : ¬ j * 12 + 6 = (j - 1) * 12 + 1 := by omega
            have nb73 : ¬ (j - 1) * 12 + 1 = j * 12 + 6 := by omega
            have na74 : ¬ j * 12 + 6 = (j - 1) * 12 + 2 := by omega
            have nb74 : ¬ (j - 1) * 12 + 2 = j * 12 + 6 := by omega
            have na75 : ¬ j * 12 + 6 = (j - 1) * 12 + 3 := by omega
            have nb75 : ¬ (j - 1) * 12 + 3 = j * 12 + 6 := by omega
            have na76 : ¬ j * 12 + 6 = (j - 1) * 12 + 4 := by omega
            have nb76 : ¬ (j - 1) * 12 + 4 = j * 12 + 6 := by omega
            have na77 : ¬ j * 12 + 6 = (j - 1) * 12 + 5 := by omega
            have nb77 : ¬ (j - 1) * 12 + 5 = j * 12 + 6 := by omega
            have na78 : ¬ j * 12 + 6 = (j - 1) * 12 + 6 := by omega
            have nb78 : ¬ (j - 1) * 12 + 6 = j * 12 + 6 := by omega
            have na79 : ¬ j * 12 + 6 = (j - 1) * 12 + 7 := by omega
            have nb79 : ¬ (j - 1) * 12 + 7 = j * 12 + 6 := by omega
            have na80 : ¬ j * 12 + 6 = (j - 1) * 12 + 8 := by omega
            have nb80 : ¬ (j - 1) * 12 + 8 = j * 12 + 6 := by omega
            have na81 : ¬ j * 12 + 6 = (j - 1) * 12 + 9 := by omega
            have nb81 : ¬ (j - 1) * 12 + 9 = j * 12 + 6 := by omega
            have na82 : ¬ j * 12 + 6 = (j - 1) * 12 + 10 := by omega
            have nb82 : ¬ (j - 1) * 12 + 10 = j * 12 + 6 := by omega
            have na83 : ¬ j * 12 + 6 = (j - 1) * 12 + 11 := by omega
            have nb83 : ¬ (j - 1) * 12 + 11 = j * 12 + 6 := by omega
            have na84 : ¬ j * 12 + 7 = (j - 1) * 12 := by omega
            have nb84 : ¬ (j - 1) * 12 = j * 12 + 7 := by omega
            have na85 : ¬ j * 12 + 7 = (j - 1) * 12 + 1 := by omega
            have nb85 : ¬ (j - 1) * 12 + 1 = j * 12 + 7 := by omega
            have na86 : ¬ j * 12 + 7 = (j - 1) * 12 + 2 := by omega
            have nb86 : ¬ (j - 1) * 12 + 2 = j * 12 + 7 := by omega
            have na87 : ¬ j * 12 + 7 = (j - 1) * 12 + 3 := by omega
            have nb87 : ¬ (j - 1) * 12 + 3 = j * 12 + 7 := by omega
            have na88 : ¬ j * 12 + 7 = (j - 1) * 12 + 4 := by omega
            have nb88 : ¬ (j - 1) * 12 + 4 = j * 12 + 7 := by omega
            have na89 : ¬ j * 12 + 7 = (j - 1) * 12 + 5 := by omega
            have nb89 : ¬ (j - 1) * 12 + 5 = j * 12 + 7 := by omega
            have na90 : ¬ j * 12 + 7 = (j - 1) * 12 + 6 := by omega
            have nb90 : ¬ (j - 1) * 12 + 6 = j * 12 + 7 := by omega
            have na91 : ¬ j * 12 + 7 = (j - 1) * 12 + 7 := by omega
            have nb91 : ¬ (j - 1) * 12 + 7 = j * 12 + 7 := by omega
            have na92 : ¬ j * 12 + 7 = (j - 1) * 12 + 8 := by omega
            have nb92 : ¬ (j - 1) * 12 + 8 = j * 12 + 7 := by omega
            have na93 : ¬ j * 12 + 7 = (j - 1) * 12 + 9 := by omega
            have nb93 : ¬ (j - 1) * 12 + 9 = j * 12 + 7 := by omega
            have na94 : ¬ j * 12 + 7 = (j - 1) * 12 + 10 := by omega
            have nb94 : ¬ (j - 1) * 12 + 10 = j * 12 + 7 := by omega
            have na95 : ¬ j * 12 + 7 = (j - 1) * 12 + 11 := by omega
            have nb95 : ¬ (j - 1) * 12 + 11 = j * 12 + 7 := by omega
            have na96 : ¬ j * 12 + 8 = (j - 1) * 12 := by omega
            have nb96 : ¬ (j - 1) * 12 = j * 12 + 8 := by omega
            have na97 : ¬ j * 12 + 8 = (j - 1) * 12 + 1 := by omega
            have nb97 : ¬ (j - 1) * 12 + 1 = j * 12 + 8 := by omega
            have na98 : ¬ j * 12 + 8 = (j - 1) * 12 + 2 := by omega
            have nb98 : ¬ (j - 1) * 12 + 2 = j * 12 + 8 := by omega
            have na99 : ¬ j * 12 + 8 = (j - 1) * 12 + 3 := by omega
            have nb99 : ¬ (j - 1) * 12 + 3 = j * 12 + 8 := by omega
            have na100 : ¬ j * 12 + 8 = (j - 1) * 12 + 4 := by omega
            have nb100 : ¬ (j - 1) * 12 + 4 = j * 12 + 8 := by omega
            have na101 : ¬ j * 12 + 8 = (j - 1) * 12 + 5 := by omega
            have nb101 : ¬ (j - 1) * 12 + 5 = j * 12 + 8 := by omega
            have na102 : ¬ j * 12 + 8 = (j - 1) * 12 + 6 := by omega
            have nb102 : ¬ (j - 1) * 12 + 6 = j * 12 + 8 := by omega
            have na103 : ¬ j * 12 + 8 = (j - 1) * 12 + 7 := by omega
            have nb103 : ¬ (j - 1) * 12 + 7 = j * 12 + 8 := by omega
            have na104 : ¬ j * 12 + 8 = (j - 1) * 12 + 8 := by omega
            have nb104 : ¬ (j - 1) * 12 + 8 = j * 12 + 8 := by omega
            have na105 : ¬ j * 12 + 8 = (j - 1) * 12 + 9 := by omega
            have nb105 : ¬ (j - 1) * 12 + 9 = j * 12 + 8 := by omega
            have na106 : ¬ j * 12 + 8 = (j - 1) * 12 + 10 := by omega
            have nb106 : ¬ (j - 1) * 12 + 10 = j * 12 + 8 := by omega
            have na107 : ¬ j * 12 + 8 = (j - 1) * 12 + 11 := by omega
            have nb107 : ¬ (j - 1) * 12 + 11 = j * 12 + 8 := by omega
            have na108 : ¬ j * 12 + 9 = (j - 1) * 12 := by omega
            have nb108 : ¬ (j - 1) * 12 = j * 12 + 9 := by omega
            have na109 : ¬ j * 12 + 9 = (j - 1) * 12 + 1 := by omega
            have nb109 : ¬ (j - 1) * 12 + 1 = j * 12 + 9 := by omega
            have na110 : ¬ j * 12 + 9 = (j - 1) * 12 + 2 := by omega
            have nb110 : ¬ (j - 1) * 12 + 2 = j * 12 + 9 := by omega
            have na111 : ¬ j * 12 + 9 = (j - 1) * 12 + 3 := by omega
            have nb111 : ¬ (j - 1) * 12 + 3 = j * 12 + 9 := by omega
            have na112 : ¬ j * 12 + 9 = (j - 1) * 12 + 4 := by omega
            have nb112 : ¬ (j - 1) * 12 + 4 = j * 12 + 9 := by omega
            have na113 : ¬ j * 12 + 9 = (j - 1) * 12 + 5 := by omega
            have nb113 : ¬ (j - 1) * 12 + 5 = j * 12 + 9 := by omega
            have na114 : ¬ j * 12 + 9 = (j - 1) * 12 + 6 := by omega
            have nb114 : ¬ (j - 1) * 12 + 6 = j * 12 + 9 := by omega
            have na115 : ¬ j * 12 + 9 = (j - 1) * 12 + 7 := by omega
            have nb115 : ¬ (j - 1) * 12 + 7 = j * 12 + 9 := by omega
            have na116 : ¬ j * 12 + 9 = (j - 1) * 12 + 8 := by omega
            have nb116 : ¬ (j - 1) * 12 + 8 = j * 12 + 9 := by omega
            have na117 : ¬ j * 12 + 9 = (j - 1) * 12 + 9 := by omega
            have nb117 : ¬ (j - 1) * 12 + 9 = j * 12 + 9 := by omega
            have na118 : ¬ j * 12 + 9 = (j - 1) * 12 + 10 := by omega
            have nb118 : ¬ (j - 1) * 12 + 10 = j * 12 + 9 := by omega
            have na119 : ¬ j * 12 + 9 = (j - 1) * 12 + 11 := by omega
            have nb119 : ¬ (j - 1) * 12 + 11 = j * 12 + 9 := by omega
            have na120 : ¬ j * 12 + 10 = (j - 1) * 12 := by omega
            have nb120 : ¬ (j - 1) * 12 = j * 12 + 10 := by omega
            have na121 : ¬ j * 12 + 10 = (j - 1) * 12 + 1 := by omega
            have nb121 : ¬ (j - 1) * 12 + 1 = j * 12 + 10 := by omega
            have na122 : ¬ j * 12 + 10 = (j - 1) * 12 + 2 := by omega
            have nb122 : ¬ (j - 1) * 12 + 2 = j * 12 + 10 := by omega
            have na123 : ¬ j * 12 + 10 = (j - 1) * 12 + 3 := by omega
            have nb123 : ¬ (j - 1) * 12 + 3 = j * 12 + 10 := by omega
            have na124 : ¬ j * 12 + 10 = (j - 1) * 12 + 4 := by omega
            have nb124 : ¬ (j - 1) * 12 + 4 = j * 12 + 10 := by omega
            have na125 : ¬ j * 12 + 10 = (j - 1) * 12 + 5 := by omega
            have nb125 : ¬ (j - 1) * 12 + 5 = j * 12 + 10 := by omega
            have na126 : ¬ j * 12 + 10 = (j - 1) * 12 + 6 := by omega
            have nb126 : ¬ (j - 1) * 12 + 6 = j * 12 + 10 := by omega
            have na127 : ¬ j * 12 + 10 = (j - 1) * 12 + 7 := by omega
            have nb127 : ¬ (j - 1) * 12 + 7 = j * 12 + 10 := by omega
            have na128 : ¬ j * 12 + 10 = (j - 1) * 12 + 8 := by omega
            have nb128 : ¬ (j - 1) * 12 + 8 = j * 12 + 10 := by omega
            have na129 : ¬ j * 12 + 10 = (j - 1) * 12 + 9 := by omega
            have nb129 : ¬ (j - 1) * 12 + 9 = j * 12 + 10 := by omega
            have na130 : ¬ j * 12 + 10 = (j - 1) * 12 + 10 := by omega
            have nb130 : ¬ (j - 1) * 12 + 10 = j * 12 + 10 := by omega
            have na131 : ¬ j * 12 + 10 = (j - 1) * 12 + 11 := by omega
            have nb131 : ¬ (j - 1) * 12 + 11 = j * 12 + 10 := by omega
            have na132 : ¬ j * 12 + 11 = (j - 1) * 12 := by omega
            have nb132 : ¬ (j - 1) * 12 = j * 12 + 11 := by omega
            have na133 : ¬ j * 12 + 11 = (j - 1) * 12 + 1 := by omega
            have nb133 : ¬ (j - 1) * 12 + 1 = j * 12 + 11 := by omega
            have na134 : ¬ j * 12 + 11 = (j - 1) * 12 + 2 := by omega
            have nb134 : ¬ (j - 1) * 12 + 2 = j * 12 + 11 := by omega
            have na135 : ¬ j * 12 + 11 = (j - 1) * 12 + 3 := by omega
            have nb135 : ¬ (j - 1) * 12 + 3 = j * 12 + 11 := by omega
            have na136 : ¬ j * 12 + 11 = (j - 1) * 12 + 4 := by omega
            have nb136 : ¬ (j - 1) * 12 + 4 = j * 12 + 11 := by omega
            have na137 : ¬ j * 12 + 11 = (j - 1) * 12 + 5 := by omega
            have nb137 : ¬ (j - 1) * 12 + 5 = j * 12 + 11 := by omega
            have na138 : ¬ j * 12 + 11 = (j - 1) * 12 + 6 := by omega
            have nb138 : ¬ (j - 1) * 12 + 6 = j * 12 + 11 := by omega
            have na139 : ¬ j * 12 + 11 = (j - 1) * 12 + 7 := by omega
            have nb139 : ¬ (j - 1) * 12 + 7 = j * 12 + 11 := by omega
            have na140 : ¬ j * 12 + 11 = (j - 1) * 12 + 8 := by omega
            have nb140 : ¬ (j - 1) * 12 + 8 = j * 12 + 11 := by omega
            have na141 : ¬ j * 12 + 11 = (j - 1) * 12 + 9 := by omega
            have nb141 : ¬ (j - 1) * 12 + 9 = j * 12 + 11 := by omega
            have na142 : ¬ j * 12 + 11 = (j - 1) * 12 + 10 := by omega
            have nb142 : ¬ (j - 1) * 12 + 10 = j * 12 + 11 := by omega
            have na143 : ¬ j * 12 + 11 = (j - 1) * 12 + 11 := by omega
            have nb143 : ¬ (j - 1) * 12 + 11 = j * 12 + 11 := by omega
            have e1 : ((j : Int) - 1).toNat = j - 1 := by omega
            have hst : ∀ (m : Nat) (ad : Addr) (mo : Mode) (W : World), Sem.run Tryz.prog (store ad (f x m) mo) W = stored Tryz.prog W ad (f x m) mo := fun m ad mo W => run_store _ W ad _ mo (HF1.out x hxm.out m)
            have hst' : ∀ (m : Nat) (ad : Addr) (mo : Mode) (W : World), Sem.run Tryz.prog (store ad (f y m) mo) W = stored Tryz.prog W ad (f y m) mo := fun m ad mo W => run_store _ W ad _ mo (HF1.out y hmy.out m)
            go_upto_region 6 with (fail)
            go_region
            clear hst hst'
            have JN : Hid (SW_Of H g 50 12 f rest w ((zs.set j y).set (j - 1) x) (World.drew (setK (setK w1 g (j * 12) ((List.range 12).map (f y))) g ((j - 1) * 12) ((List.range 12).map (f x))))) := SW_mk_Of ZP.out (setK_grown _ _ (setK_grown _ _ Z4.out)) (setK_in _ _ (setK_in _ _ Z5.out hg) hg)
            clear cj0 dj0 fj0 gj0 cj1 dj1 fj1 gj1 cj2 dj2 fj2 gj2 cj3 dj3 fj3 gj3 cj4 dj4 fj4 gj4 cj5 dj5 fj5 gj5 cj6 dj6 fj6 gj6 cj7 dj7 fj7 gj7 cj8 dj8 fj8 gj8 cj9 dj9 fj9 gj9 cj10 dj10 fj10 gj10 cj11 dj11 fj11 gj11 ZP Z4 Z5 hsw hdn na0 nb0 na1 nb1 na2 nb2 na3 nb3 na4 nb4 na5 nb5 na6 nb6 na7 nb7 na8 nb8 na9 nb9 na10 nb10 na11 nb11 na12 nb12 na13 nb13 na14 nb14 na15 nb15 na16 nb16 na17 nb17 na18 nb18 na19 nb19 na20 nb20 na21 nb21 na22 nb22 na23 nb23 na24 nb24 na25 nb25 na26 nb26 na27 nb27 na28 nb28 na29 nb29 na30 nb30 na31 nb31 na32 nb32 na33 nb33 na34 nb34 na35 nb35 na36 nb36 na37 nb37 na38 nb38 na39 nb39 na40 nb40 na41 nb41 na42 nb42 na43 nb43 na44 nb44 na45 nb45 na46 nb46 na47 nb47 na48 nb48 na49 nb49 na50 nb50 na51 nb51 na52 nb52 na53 nb53 na54 nb54 na55 nb55 na56 nb56 na57 nb57 na58 nb58 na59 nb59 na60 nb60 na61 nb61 na62 nb62 na63 nb63 na64 nb64 na65 nb65 na66 nb66 na67 nb67 na68 nb68 na69 nb69 na70 nb70 na71 nb71 na72 nb72 na73 nb73 na74 nb74 na75 nb75 na76 nb76 na77 nb77 na78 nb78 na79 nb79 na80 nb80 na81 nb81 na82 nb82 na83 nb83 na84 nb84 na85 nb85 na86 nb86 na87 nb87 na88 nb88 na89 nb89 na90 nb90 na91 nb91 na92 nb92 na93 nb93 na94 nb94 na95 nb95 na96 nb96 na97 nb97 na98 nb98 na99 nb99 na100 nb100 na101 nb101 na102 nb102 na103 nb103 na104 nb104 na105 nb105 na106 nb106 na107 nb107 na108 nb108 na109 nb109 na110 nb110 na111 nb111 na112 nb112 na113 nb113 na114 nb114 na115 nb115 na116 nb116 na117 nb117 na118 nb118 na119 nb119 na120 nb120 na121 nb121 na122 nb122 na123 nb123 na124 nb124 na125 nb125 na126 nb126 na127 nb127 na128 nb128 na129 nb129 na130 nb130 na131 nb131 na132 nb132 na133 nb133 na134 nb134 na135 nb135 na136 nb136 na137 nb137 na138 nb138 na139 nb139 na140 nb140 na141 nb141 na142 nb142 na143 nb143
            go_wp2_with fail
            refine ⟨⟨j - 1, _, by omega, by rw [show ((j : Int) - 1) = ((j - 1 : Nat) : Int) from by omega], JS, JN⟩, ?_⟩
            simp only [intOf]
            omega
          · have hzz := Lib.hid (hdn.out (by simpa using hr))
            have JN : Hid (SW_Of H g 50 12 f rest w zs w1) := ⟨Z3h.out, Z4.out, Z5.out⟩
            clear cj0 dj0 fj0 gj0 cj1 dj1 fj1 gj1 cj2 dj2 fj2 gj2 cj3 dj3 fj3 gj3 cj4 dj4 fj4 gj4 cj5 dj5 fj5 gj5 cj6 dj6 fj6 gj6 cj7 dj7 fj7 gj7 cj8 dj8 fj8 gj8 cj9 dj9 fj9 gj9 cj10 dj10 fj10 gj10 cj11 dj11 fj11 gj11 ZP Z4 Z5 hsw hdn
            go_wp2_with fail
            refine ⟨⟨i + 1, zs, by omega, by omega, by go_num, ?_, JN⟩, ?_⟩
            · show _ = _
              rw [hstep.out, HRR.out]
              exact hzz.out
            · simp only [intOf]
              omega
        · have hj1 : j = 0 := by omega
          subst hj1
          have hzz := Lib.hid (SI.out.done SI.out.length.1 (fun h => absurd h (by omega)))
          have HZL := Lib.hid hzl
          clear hzl
          go_wp2_with fail
          go_quiet (fail)
          go_wp2_with fail
          refine ⟨⟨i + 1, zs, by omega, by omega, by go_num, ?_, Ji.out.1, grown_drewN' Ji.out.2.1 _, Ji.out.2.2⟩, ?_⟩
          · show _ = _
            rw [hstep.out, HRR.out]
            exact hzz.out
          · simp only [intOf]
            omega
    · have hys2 := Lib.hid (show ys = isort (fun a b => decide (c a b < 0)) ds by have := hys.out; rw [List.take_of_length_le (by rw [HN.out]; omega), List.drop_of_length_le (by rw [HN.out]; omega), List.append_nil] at this; exact this)
      go_wp2_with fail
      go_end0
      refine ⟨rfl, ?_⟩
      rw [← hys2.out]
      exact J.out
end
end Go.Proofs.YtihcmifikbkbcaaGreat

/- SortFunc at elements of 12 cells. -/
namespace Go.Proofs.YtihcmifikbkbcaaGreat
set_option linter.unusedVariables false
open Go.RowKit

section
variable {D : Type}

set_option maxHeartbeats 1000000 in
theorem pdq_Of (H : Frz) (f : D → Nat → Value) (kf : Nat) (caps : List Value) (c : D → D → Int) (ds : List D) (hf1 : ∀ d ∈ ds, ∀ m, (f d m).oneCell' = true) (hcmp : CmpK_Of H f kf caps c ds) (hcall : ∀ (a b : Value) (W : World), (callFunc kf (a :: b :: caps).toArray).run Tryz.prog W = .ok (.enter kf (a :: b :: caps).toArray) W) (g n cap : Nat) (lim : Int) (rest : List Value) (w : World)
    (hn : ds.length = n) (hcap : n ≤ cap) (hn20 : n ≤ 12) (hH : H.In w) (hg : H g = none) (hB : KBlk w g 50 12 f ds rest) :
    Calls Tryz.prog 108 #[.slice (some ⟨g, 0, none⟩) n cap, .int .i64 0, .int .i64 n, .int .i64 lim, .func (.func kf) #[] caps.toArray] w fun e w' =>
      e = .returned (.tuple #[]) ∧ SW_Of H g 50 12 f rest w (isort (fun a b => decide (c a b < 0)) ds) w' := by
  have HI := Lib.hid (insort_Of H f kf caps c ds hf1 hcmp hcall g n cap rest w hn hcap (by omega) hH hg hB)
  clear hcmp hcall hH hB hn hg hf1
  go_enter Tryz.func108, Tryz.ntmps108
  go_wp2_with fail
  refine wp_loop_rounds 1 ?_
  rw [rounds_succ]
  go_wp2_with fail
  refine HI.out.mono ?_
  rintro e w1 ⟨rfl, J⟩
  have J := Lib.hid J
  clear HI
  go_wp2_with fail
  (try simp only [Exit.inBlock, Exit.then])
  refine bodyPost_ret (results_none rfl _ _ _) rfl ?_
  exact ⟨rfl, J.out⟩
set_option maxHeartbeats 1000000 in
theorem sortFunc_Of (H : Frz) (f : D → Nat → Value) (kf : Nat) (caps : List Value) (c : D → D → Int) (ds : List D) (hf1 : ∀ d ∈ ds, ∀ m, (f d m).oneCell' = true) (hcmp : CmpK_Of H f kf caps c ds) (hcall : ∀ (a b : Value) (W : World), (callFunc kf (a :: b :: caps).toArray).run Tryz.prog W = .ok (.enter kf (a :: b :: caps).toArray) W) (v : Value) (B : Nat) (w : World)
    (hn20 : ds.length ≤ 12) (hH : H.In w) (hHB : ∀ g, v.ownBlock = some g → H g = none) (hO : Orow w B 50 12 f v ds) (hne : v ≠ .slice none 0 0) :
    Calls Tryz.prog 88 #[v, .func (.func kf) #[] caps.toArray] w fun e w' =>
      e = .returned (.tuple #[]) ∧ Orow w' B 50 12 f v (isort (fun a b => decide (c a b < 0)) ds) ∧ w.grownBy w' v.ownBlock ∧ H.In w' := by
  rcases hO.2 with ⟨rfl, h0⟩ | ⟨g, cap, cur, rfl, hBg, hh, hle, hm, hs, ht⟩
  · exact absurd rfl hne
  · have hK : KBlk w g 50 12 f ds (cur.toList.drop (ds.length * 12)) := by
      unfold KBlk
      rw [← ht, List.take_append_drop]
      exact hh
    have HI := Lib.hid (fun lim => pdq_Of H f kf caps c ds hf1 hcmp hcall g ds.length cap lim _ w rfl hle hn20 hH (hHB g rfl) hK)
    have HL := Lib.hid (fun W => Tryz.bits_Len (ds.length : Int) W (by omega) (by omega))
    clear hcmp hcall hH hO hK hHB hf1 hne
    go_enter Tryz.func88, Tryz.ntmps88
    go_wp2_with fail
    refine (HL.out _).mono ?_
    rintro e w1 ⟨rfl, hw1⟩
    obtain rfl := hw1.symm
    go_wp2_with fail
    refine (HI.out _).mono ?_
    rintro e w1 ⟨rfl, J⟩
    have J := Lib.hid J
    clear HI
    go_wp2_with fail
    go_end0
    refine ⟨rfl, ?_, J.out.2.1, J.out.2.2⟩
    have h1 := J.out.1
    refine ⟨by rw [cellsOf_len], Or.inr ⟨g, cap, _, by rw [isort_length], hBg, h1, by rw [isort_length]; exact hle, hm, ?_, ?_⟩⟩
    · simp [cellsOf_len, isort_length, hs]
      have := Nat.mul_le_mul_right 12 hle
      omega
    · rw [isort_length]
      simp
      rw [List.take_left' (by rw [cellsOf_len, isort_length])]
end
end Go.Proofs.YtihcmifikbkbcaaGreat
