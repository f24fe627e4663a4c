/- Sorting elements of 3 cells. -/
import Derived.Test.YtadfoaopamlnpaaIsort
import Derived.Test.YtadfoaopamlnpaaSortI
import Derived.StillTailTactics
import Derived.Deep.Cut
namespace Go.Proofs.Ytadfoaopamlnpaa
set_option linter.unusedVariables false
open Go.RowKit

section
variable {D : Type}
/-- What a comparison does. -/
def CmpK_Cell (H : Frz) (f : D → Nat → Value) (kf : Nat) (caps : List Value) (c : D → D → Int) (ds : List D) : Prop :=
  ∀ (W : World) (a b : D), H.In W → a ∈ ds → b ∈ ds → Calls Try.prog kf ((.agg #[f a 0, f a 1, f a 2] : Value) :: (.agg #[f b 0, f b 1, f b 2] : Value) :: caps).toArray W fun e W' => e = .returned (.int .i64 (c a b)) ∧ Below W.heap.size W W'
/-- The sort's state. -/
def SW_Cell (H : Frz) (g T k : Nat) (f : D → Nat → Value) (rest : List Value) (w : World) (ys : List D) (wr : World) : Prop := KBlk wr g T k f ys rest ∧ w.grownBy wr (some g) ∧ H.In wr
theorem SW_mk_Cell {H : Frz} {g T k : Nat} {f : D → Nat → Value} {rest : List Value} {w : World} {ys : List D} {W : World} (h1 : KBlk W g T k f ys rest) (h2 : w.grownBy W (some g)) (h3 : H.In W) : Hid (SW_Cell H g T k f rest w ys W.drew) := ⟨h1, grown_drew h2, h3⟩

set_option maxHeartbeats 4000000 in
set_option maxRecDepth 100000 in
theorem insort_Cell (H : Frz) (f : D → Nat → Value) (kf : Nat) (caps : List Value) (c : D → D → Int) (ds : List D) (hf1 : ∀ d ∈ ds, ∀ m, (f d m).oneCell' = true) (hcmp : CmpK_Cell H f kf caps c ds) (hcall : ∀ (a b : Value) (W : World), (callFunc kf (a :: b :: caps).toArray).run Try.prog W = .ok (.enter kf (a :: b :: caps).toArray) W) (g n cap : Nat) (rest : List Value) (w : World)
    (hn : ds.length = n) (hcap : n ≤ cap) (hn12 : n ≤ 1000) (hH : H.In w) (hg : H g = none) (hB : KBlk w g 54 3 f ds rest) :
    Calls Try.prog 110 #[.slice (some ⟨g, 0, none⟩) n cap, .int .i64 0, .int .i64 n, .func (.func kf) #[] caps.toArray] w fun e w' =>
      e = .returned (.tuple #[]) ∧ SW_Cell H g 54 3 f rest w (isort (fun a b => decide (c a b < 0)) ds) w' := by
  have HC := Lib.hid hcmp
  have HN := Lib.hid hn
  have J0 : Hid (SW_Cell H g 54 3 f rest w ds w) := ⟨hB, World.grownBy.refl _ _, hH⟩
  have HF1 := Lib.hid hf1
  clear hcmp hH hB hn hf1
  go_enter Try.func110, Try.ntmps110
  go_wp2_with fail
  go_loopw [8] (fun t wr => ∃ (i : Nat) (ys : List D), 1 ≤ i ∧ (i ≤ n ∨ n = 0 ∧ i = 1) ∧ t = .int .i64 i ∧ Hid (ys = isort (fun a b => decide (c a b < 0)) (ds.take i) ++ ds.drop i) ∧ Hid (SW_Cell H g 54 3 f rest w ys wr)) (fun t _ => n + 1 - (intOf t).toNat)
  case atStart =>
    refine ⟨1, ds, by omega, by omega, rfl, ?_, J0⟩
    show ds = _
    cases ds with
    | nil => rfl
    | cons d ds => simp [isort, insLast]
  case round =>
    obtain ⟨i, ys, hi1, hi2, rfl, hys, J⟩ := hrel
    by_cases hlt : i < n
    · have hil : i < ds.length := by rw [HN.out]; exact hlt
      have hdr := List.drop_eq_getElem_cons hil
      have hx : Hid (∀ d, d ∈ isort (fun a b => decide (c a b < 0)) (ds.take i) → d ∈ ds) := fun d hd => List.mem_of_mem_take ((isort_perm _ _).mem_iff.1 hd)
      have hxm := Lib.hid (List.getElem_mem hil)
      have hR : Hid (∀ d, d ∈ ds.drop (i + 1) → d ∈ ds) := fun d hd => List.mem_of_mem_drop hd
      have hacl : (isort (fun a b => decide (c a b < 0)) (ds.take i)).length = i := by rw [isort_length, List.length_take]; omega
      have hRl : (ds.drop (i + 1)).length = n - (i + 1) := by rw [List.length_drop, HN.out]
      have hstep : Hid (isort (fun a b => decide (c a b < 0)) (ds.take (i + 1)) = insLast (fun a b => decide (c a b < 0)) ds[i] (isort (fun a b => decide (c a b < 0)) (ds.take i))) := by
        show _ = _
        rw [List.take_succ_eq_append_getElem hil, isort_snoc]
      have hys2 := hys.out
      rw [hdr] at hys2
      generalize isort (fun a b => decide (c a b < 0)) (ds.take i) = acc at hx hacl hstep hys2
      generalize hR' : ds.drop (i + 1) = R at hR hRl hys2
      have HRR := Lib.hid hR'
      generalize ds[i] = x at hxm hstep hys2
      have S0 : Hid (SIn (fun a b => decide (c a b < 0)) acc x R i ys) := by
        have := SIn.start (lt := fun a b => decide (c a b < 0)) acc R x
        rw [hacl, ← hys2] at this
        exact this
      have HACL := Lib.hid hacl
      have HRL := Lib.hid hRl
      clear hdr hys hys2 hR' hacl hRl J0
      obtain ⟨wo, rfl⟩ : ∃ wo : World, wo = wr := ⟨_, rfl⟩
      go_wp2_with fail
      go_loopw [9] (fun t wi => ∃ (j : Nat) (zs : List D), j ≤ i ∧ t = .int .i64 j ∧ Hid (SIn (fun a b => decide (c a b < 0)) acc x R j zs) ∧ Hid (SW_Cell H g 54 3 f rest w zs wi)) (fun t _ => (intOf t).toNat)
      case atStart => exact ⟨i, ys, by omega, rfl, S0, J⟩
      case round =>
        obtain ⟨j, zs, hj, rfl, SI, Ji⟩ := hrel
        clear S0 J
        have hzl : zs.length = n := by have := SI.out.length.1; rw [HACL.out, HRL.out] at this; omega
        by_cases hj0 : 0 < j
        · have hjn : j < zs.length := by omega
          have hj1n : j - 1 < zs.length := by omega
          have hzj : zs[j] = x := SI.out.at_ hjn
          have cj0 : wr.cell? ⟨g, j * 3, none⟩ = some (f zs[j] 0) := Ji.out.1.cell (j) 0 (hjn) (by omega)
          have cj1 : wr.cell? ⟨g, j * 3 + 1, none⟩ = some (f zs[j] 1) := Ji.out.1.cell (j) 1 (hjn) (by omega)
          have cj2 : wr.cell? ⟨g, j * 3 + 2, none⟩ = some (f zs[j] 2) := Ji.out.1.cell (j) 2 (hjn) (by omega)
          have dj0 : wr.cell? ⟨g, (j - 1) * 3, none⟩ = some (f zs[j - 1] 0) := Ji.out.1.cell (j - 1) 0 (hj1n) (by omega)
          have dj1 : wr.cell? ⟨g, (j - 1) * 3 + 1, none⟩ = some (f zs[j - 1] 1) := Ji.out.1.cell (j - 1) 1 (hj1n) (by omega)
          have dj2 : wr.cell? ⟨g, (j - 1) * 3 + 2, none⟩ = some (f zs[j - 1] 2) := Ji.out.1.cell (j - 1) 2 (hj1n) (by omega)
          rw [hzj] at cj0 cj1 cj2
          have hmy : Hid (zs[j - 1] ∈ ds) := by
            rcases SI.out.mem (List.getElem_mem hj1n) with h | h | h
            · exact hx.out _ h
            · show _ ∈ _; rw [h]; exact hxm.out
            · exact hR.out _ h
          have hsw := Lib.hid (fun h => SI.out.swap hj0 hjn h)
          have hdn := Lib.hid (fun (h : (fun a b => decide (c a b < 0)) x zs[j - 1] = false) => SI.out.done SI.out.length.1 (fun _ => h))
          generalize hyy : zs[j - 1] = y at dj0 dj1 dj2 hmy hsw hdn
          have HYY : Hid (∀ h : j - 1 < zs.length, zs[j - 1]'h = y) := fun _ => hyy
          have e1 : ((j : Int) - 1).toNat = j - 1 := by omega
          have e2 : IntKind.i64.wrap ((j : Int) - 1) = (j : Int) - 1 := IntWalk.i64_in _ (by omega)
          have e3 : (0 : Int) ≤ (j : Int) - 1 := by omega
          have e4 : (j : Int) - 1 < n := by omega
          have e5 : (j : Int) < n := by omega
          have e6 : 1 ≤ j := by omega
          have e7 : (1 : Int) ≤ (j : Int) := by omega
          have e8 : (j : Int) ≤ n := by omega
          have e9 : j ≤ n := by omega
          have e10 : (0 : Int) < (j : Int) := by omega
          have HZL := Lib.hid hzl
          clear hyy hzj hzl hjn hj1n
          go_wp2_with fail
          go_still_tail 14, (by kernel_rfl)
          change wpList _ _ _ _ _ wr.drew
          clear e1 e2
          go_wp2_with fail
          refine (HC.out wr.drew x y Ji.out.2.2 hxm.out hmy.out).mono ?_
          rintro e w1 ⟨rfl, hb1⟩
          have hb : Below wr.heap.size wr w1 := (Below.refl _ wr).drew.trans hb1
          have Z3 := Ji.out.1.keep hb
          have Z4 := Lib.hid (grown_below Ji.out.2.1 hb)
          have Z5 := Lib.hid (Ji.out.2.2.below hb)
          have hjn : j < zs.length := by rw [HZL.out]; omega
          clear cj0 dj0 cj1 dj1 cj2 dj2
          have hj1n : j - 1 < zs.length := by rw [HZL.out]; omega
          have hzj : zs[j] = x := SI.out.at_ hjn
          have cj0 : w1.cell? ⟨g, j * 3, none⟩ = some (f zs[j] 0) := Z3.cell (j) 0 (hjn) (by omega)
          have cj1 : w1.cell? ⟨g, j * 3 + 1, none⟩ = some (f zs[j] 1) := Z3.cell (j) 1 (hjn) (by omega)
          have cj2 : w1.cell? ⟨g, j * 3 + 2, none⟩ = some (f zs[j] 2) := Z3.cell (j) 2 (hjn) (by omega)
          have dj0 : w1.cell? ⟨g, (j - 1) * 3, none⟩ = some (f zs[j - 1] 0) := Z3.cell (j - 1) 0 (hj1n) (by omega)
          have dj1 : w1.cell? ⟨g, (j - 1) * 3 + 1, none⟩ = some (f zs[j - 1] 1) := Z3.cell (j - 1) 1 (hj1n) (by omega)
          have dj2 : w1.cell? ⟨g, (j - 1) * 3 + 2, none⟩ = some (f zs[j - 1] 2) := Z3.cell (j - 1) 2 (hj1n) (by omega)
          have fj0 := Z3.frozen (j * 3)
          have fj1 := Z3.frozen (j * 3 + 1)
          have fj2 := Z3.frozen (j * 3 + 2)
          have gj0 := Z3.frozen ((j - 1) * 3)
          have gj1 := Z3.frozen ((j - 1) * 3 + 1)
          have gj2 := Z3.frozen ((j - 1) * 3 + 2)
          rw [hzj] at cj0 cj1 cj2
          rw [HYY.out hj1n] at dj0 dj1 dj2
          have ZP := Lib.hid ((Z3.put j hjn y).put (j - 1) (by simp; omega) x)
          have Z3h := Lib.hid Z3
          clear Z3 hb hb1 Ji hjn hj1n hzj HYY
          by_cases hr : c x y < 0
          · have JS := Lib.hid (hsw.out (by simpa using hr))
            have na0 : ¬ j * 3 = (j - 1) * 3 := by omega
            have nb0 : ¬ (j - 1) * 3 = j * 3 := by omega
            have na1 : ¬ j * 3 = (j - 1) * 3 + 1 := by omega
            have nb1 : ¬ (j - 1) * 3 + 1 = j * 3 := by omega
            have na2 : ¬ j * 3 = (j - 1) * 3 + 2 := by omega
            have nb2 : ¬ (j - 1) * 3 + 2 = j * 3 := by omega
            have na3 : ¬ j * 3 + 1 = (j - 1) * 3 := by omega
            have nb3 : ¬ (j - 1) * 3 = j * 3 + 1 := by omega
            have na4 : ¬ j * 3 + 1 = (j - 1) * 3 + 1 := by omega
            have nb4 : ¬ (j - 1) * 3 + 1 = j * 3 + 1 := by omega
            have na5 : ¬ j * 3 + 1 = (j - 1) * 3 + 2 := by omega
            have nb5 : ¬ (j - 1) * 3 + 2 = j * 3 + 1 := by omega
            have na6 : ¬ j * 3 + 2 = (j - 1) * 3 := by omega
            have nb6 : ¬ (j - 1) * 3 = j * 3 + 2 := by omega
            have na7 : ¬ j * 3 + 2 = (j - 1) * 3 + 1 := by omega
            have nb7 : ¬ (j - 1) * 3 + 1 = j * 3 + 2 := by omega
            have na8 : ¬ j * 3 + 2 = (j - 1) * 3 + 2 := by omega
            have nb8 : ¬ (j - 1) * 3 + 2 = j * 3 + 2 := by omega
            have e1 : ((j : Int) - 1).toNat = j - 1 := by omega
            have hst : ∀ (m : Nat) (ad : Addr) (mo : Mode) (W : World), Sem.run Try.prog (store ad (f x m) mo) W = stored Try.prog W ad (f x m) mo := fun m ad mo W => run_store _ W ad _ mo (HF1.out x hxm.out m)
            have hst' : ∀ (m : Nat) (ad : Addr) (mo : Mode) (W : World), Sem.run Try.prog (store ad (f y m) mo) W = stored Try.prog W ad (f y m) mo := fun m ad mo W => run_store _ W ad _ mo (HF1.out y hmy.out m)
            go_upto_region 6 with (fail)
            go_region
            clear hst hst'
            have JN : Hid (SW_Cell H g 54 3 f rest w ((zs.set j y).set (j - 1) x) (World.drew (setK (setK w1 g (j * 3) ((List.range 3).map (f y))) g ((j - 1) * 3) ((List.range 3).map (f x))))) := SW_mk_Cell ZP.out (setK_grown _ _ (setK_grown _ _ Z4.out)) (setK_in _ _ (setK_in _ _ Z5.out hg) hg)
            clear cj0 dj0 fj0 gj0 cj1 dj1 fj1 gj1 cj2 dj2 fj2 gj2 ZP Z4 Z5 hsw hdn na0 nb0 na1 nb1 na2 nb2 na3 nb3 na4 nb4 na5 nb5 na6 nb6 na7 nb7 na8 nb8
            go_wp2_with fail
            refine ⟨⟨j - 1, _, by omega, by rw [show ((j : Int) - 1) = ((j - 1 : Nat) : Int) from by omega], JS, JN⟩, ?_⟩
            simp only [intOf]
            omega
          · have hzz := Lib.hid (hdn.out (by simpa using hr))
            have JN : Hid (SW_Cell H g 54 3 f rest w zs w1) := ⟨Z3h.out, Z4.out, Z5.out⟩
            clear cj0 dj0 fj0 gj0 cj1 dj1 fj1 gj1 cj2 dj2 fj2 gj2 ZP Z4 Z5 hsw hdn
            go_wp2_with fail
            refine ⟨⟨i + 1, zs, by omega, by omega, by go_num, ?_, JN⟩, ?_⟩
            · show _ = _
              rw [hstep.out, HRR.out]
              exact hzz.out
            · simp only [intOf]
              omega
        · have hj1 : j = 0 := by omega
          subst hj1
          have hzz := Lib.hid (SI.out.done SI.out.length.1 (fun h => absurd h (by omega)))
          have HZL := Lib.hid hzl
          clear hzl
          go_wp2_with fail
          go_quiet (fail)
          go_wp2_with fail
          refine ⟨⟨i + 1, zs, by omega, by omega, by go_num, ?_, Ji.out.1, grown_drewN' Ji.out.2.1 _, Ji.out.2.2⟩, ?_⟩
          · show _ = _
            rw [hstep.out, HRR.out]
            exact hzz.out
          · simp only [intOf]
            omega
    · have hys2 := Lib.hid (show ys = isort (fun a b => decide (c a b < 0)) ds by have := hys.out; rw [List.take_of_length_le (by rw [HN.out]; omega), List.drop_of_length_le (by rw [HN.out]; omega), List.append_nil] at this; exact this)
      go_wp2_with fail
      go_end0
      refine ⟨rfl, ?_⟩
      rw [← hys2.out]
      exact J.out

set_option maxHeartbeats 1000000 in
theorem stable_Cell (H : Frz) (f : D → Nat → Value) (kf : Nat) (caps : List Value) (c : D → D → Int) (ds : List D) (hf1 : ∀ d ∈ ds, ∀ m, (f d m).oneCell' = true) (hcmp : CmpK_Cell H f kf caps c ds) (hcall : ∀ (a b : Value) (W : World), (callFunc kf (a :: b :: caps).toArray).run Try.prog W = .ok (.enter kf (a :: b :: caps).toArray) W) (g n cap : Nat) (rest : List Value) (w : World)
    (hn : ds.length = n) (hcap : n ≤ cap) (hn20 : n < 20) (hH : H.In w) (hg : H g = none) (hB : KBlk w g 54 3 f ds rest) :
    Calls Try.prog 90 #[.slice (some ⟨g, 0, none⟩) n cap, .int .i64 n, .func (.func kf) #[] caps.toArray] w fun e w' =>
      e = .returned (.tuple #[]) ∧ SW_Cell H g 54 3 f rest w (isort (fun a b => decide (c a b < 0)) ds) w' := by
  have HI := Lib.hid (insort_Cell H f kf caps c ds hf1 hcmp hcall g n cap rest w hn hcap (by omega) hH hg hB)
  clear hcmp hcall hH hB hn hg hf1
  go_enter Try.func90, Try.ntmps90
  go_wp2_with fail
  refine wp_loop_rounds 1 ?_
  rw [rounds_succ]
  go_wp2_with fail
  refine HI.out.mono ?_
  rintro e w1 ⟨rfl, J⟩
  have J := Lib.hid J
  clear HI
  go_wp2_with fail
  refine wp_loop_rounds 1 ?_
  rw [rounds_succ]
  go_wp2_with fail
  go_end0
  exact ⟨rfl, J.out⟩
set_option maxHeartbeats 1000000 in
theorem stable_nil_Cell (A : Option Addr) (cap : Nat) (fv : Value) (w : World) :
    Calls Try.prog 60 #[.slice A 0 cap, fv] w fun e w' => e = .returned (.tuple #[]) ∧ w = w' := by
  go_enter Try.func60, Try.ntmps60
  go_wp2
  refine wp_loop_rounds 1 ?_
  rw [rounds_succ]
  go_wp2
  refine wp_loop_rounds 1 ?_
  rw [rounds_succ]
  go_wp2
  go_end0
  go_wp2
  refine wp_loop_rounds 1 ?_
  rw [rounds_succ]
  go_wp2
  go_end0
  go_wp2
  go_end0
  exact ⟨rfl, rfl⟩
set_option maxHeartbeats 1000000 in
theorem sortStable_Cell (H : Frz) (f : D → Nat → Value) (kf : Nat) (caps : List Value) (c : D → D → Int) (ds : List D) (hf1 : ∀ d ∈ ds, ∀ m, (f d m).oneCell' = true) (hcmp : CmpK_Cell H f kf caps c ds) (hcall : ∀ (a b : Value) (W : World), (callFunc kf (a :: b :: caps).toArray).run Try.prog W = .ok (.enter kf (a :: b :: caps).toArray) W) (v : Value) (B : Nat) (w : World)
    (hn20 : ds.length < 20) (hH : H.In w) (hHB : ∀ g, v.ownBlock = some g → H g = none) (hO : Orow w B 54 3 f v ds) :
    Calls Try.prog 60 #[v, .func (.func kf) #[] caps.toArray] w fun e w' =>
      e = .returned (.tuple #[]) ∧ Orow w' B 54 3 f v (isort (fun a b => decide (c a b < 0)) ds) ∧ w.grownBy w' v.ownBlock ∧ H.In w' := by
  rcases hO.2 with ⟨rfl, h0⟩ | ⟨g, cap, cur, rfl, hBg, hh, hle, hm, hs, ht⟩
  · have : ds = [] := List.eq_nil_of_length_eq_zero h0
    subst this
    refine (stable_nil_Cell none 0 _ w).mono ?_
    rintro e w' ⟨rfl, rfl⟩
    exact ⟨rfl, hO, World.grownBy.refl _ _, hH⟩
  · have hK : KBlk w g 54 3 f ds (cur.toList.drop (ds.length * 3)) := by
      unfold KBlk
      rw [← ht, List.take_append_drop]
      exact hh
    have HI := Lib.hid (stable_Cell H f kf caps c ds hf1 hcmp hcall g ds.length cap _ w rfl hle hn20 hH (hHB g rfl) hK)
    clear hcmp hcall hH hO hK hHB hf1
    go_enter Try.func60, Try.ntmps60
    go_wp2_with fail
    refine HI.out.mono ?_
    rintro e w1 ⟨rfl, J⟩
    have J := Lib.hid J
    clear HI
    go_wp2_with fail
    go_end0
    refine ⟨rfl, ?_, J.out.2.1, J.out.2.2⟩
    have h1 := J.out.1
    refine ⟨by rw [cellsOf_len], Or.inr ⟨g, cap, _, by rw [isort_length], hBg, h1, by rw [isort_length]; exact hle, hm, ?_, ?_⟩⟩
    · simp [cellsOf_len, isort_length, hs]
      have := Nat.mul_le_mul_right 3 hle
      omega
    · rw [isort_length]
      simp
      rw [List.take_left' (by rw [cellsOf_len, isort_length])]
end
end Go.Proofs.Ytadfoaopamlnpaa
