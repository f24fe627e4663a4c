/- Texts of this claim, put together: ShareP, SumOf, SortI, App2, Divide, SortDv, PdqDv, DivZ. -/
import Derived.Test.YtihcmifikbkbcaaGreatDoorQA
import Derived.LoopTactic
import Derived.Test.YtihcmifikbkbcaaGreatDoorShelf
import Derived.StillTailTactics
import Derived.Deep.Cut
import Derived.Maps.AppendAt
import Derived.Deep.CutBlock
import Derived.Deep.DeepCutAuto
/- Plain facts on dividing an amount by weights: no program in sight. -/
namespace Hb

/-- What each weight gets at least. -/
def parts (c s : Nat) (ws : List Nat) : List Nat := ws.map fun z => c * z / s

theorem parts_length (c s : Nat) (ws : List Nat) : (parts c s ws).length = ws.length := by simp [parts]

theorem parts_le (c s : Nat) (ws : List Nat) : (parts c s ws).sum * s ≤ c * ws.sum := by
  induction ws with
  | nil => simp [parts]
  | cons z ws ih =>
    simp only [parts, List.map_cons, List.sum_cons] at ih ⊢
    rw [Nat.add_mul, Nat.mul_add]
    have := Nat.div_mul_le_self (c * z) s
    omega
theorem parts_gt (c s : Nat) (hs : 0 < s) (ws : List Nat) : c * ws.sum ≤ ((parts c s ws).sum + ws.length) * s := by
  induction ws with
  | nil => simp [parts]
  | cons z ws ih =>
    simp only [parts, List.map_cons, List.sum_cons, List.length_cons] at ih ⊢
    rw [Nat.mul_add]
    have h1 := Nat.div_add_mod' (c * z) s
    have h2 := Nat.mod_lt (c * z) hs
    have h3 : c * z ≤ (c * z / s + 1) * s := by rw [Nat.succ_mul]; omega
    have e : (c * z / s + (List.map (fun z => c * z / s) ws).sum + (ws.length + 1)) * s = (c * z / s + 1) * s + ((List.map (fun z => c * z / s) ws).sum + ws.length) * s := by
      rw [← Nat.add_mul]; congr 1; omega
    rw [e]
    omega
theorem parts_sum (c : Nat) (ws : List Nat) (hs : 0 < ws.sum) : (parts c ws.sum ws).sum ≤ c ∧ c ≤ (parts c ws.sum ws).sum + ws.length :=
  ⟨Nat.le_of_mul_le_mul_right (parts_le c ws.sum ws) hs, Nat.le_of_mul_le_mul_right (parts_gt c ws.sum hs ws) hs⟩
theorem parts_each {c s z : Nat} (hz : z ≤ s) : c * z / s ≤ c := by
  apply Nat.div_le_of_le_mul
  rw [Nat.mul_comm s c]
  exact Nat.mul_le_mul_left _ hz
theorem mem_le_sum {ws : List Nat} {z : Nat} (h : z ∈ ws) : z ≤ ws.sum := by
  induction ws with
  | nil => cases h
  | cons a ws ih =>
    rw [List.sum_cons]
    rcases List.mem_cons.1 h with rfl | h
    · omega
    · have := ih h; omega
theorem sum_le {ws : List Nat} {b : Nat} (h : ∀ z ∈ ws, z ≤ b) : ws.sum ≤ ws.length * b := by
  induction ws with
  | nil => simp
  | cons a ws ih =>
    have h1 := ih fun z hz => h z (List.mem_cons_of_mem _ hz)
    have h2 := h a List.mem_cons_self
    rw [List.sum_cons, List.length_cons, Nat.succ_mul]
    omega
theorem sum_set {ws : List Nat} {i : Nat} (h : i < ws.length) : (ws.set i (ws[i] + 1)).sum = ws.sum + 1 := by
  induction ws generalizing i with
  | nil => simp at h
  | cons a ws ih =>
    cases i with
    | zero => simp; omega
    | succ i =>
      simp only [List.set_cons_succ, List.getElem_cons_succ, List.sum_cons]
      rw [ih (by simpa using h)]
      omega
theorem sum_take_succ {ws : List Nat} {k : Nat} (h : k < ws.length) : (ws.take (k + 1)).sum = (ws.take k).sum + ws[k] := by
  rw [List.take_succ_eq_append_getElem h, List.sum_append]; simp
theorem sum_take_le (ws : List Nat) (k : Nat) : (ws.take k).sum ≤ ws.sum := by
  have : (ws.take k).sum + (ws.drop k).sum = ws.sum := by rw [← List.sum_append, List.take_append_drop]
  omega
theorem sum_cast (ws : List Nat) : (ws.map fun z : Nat => (z : Int)).sum = (ws.sum : Int) := by
  induction ws with
  | nil => rfl
  | cons a ws ih => simp [ih]
end Hb

/- Sums of ints: sumOf. -/
namespace Go.Proofs.YtihcmifikbkbcaaGreatDoor
set_option linter.unusedVariables false
open Go.RowKit
theorem sum_take {zs : List Int} {k : Nat} (h : k < zs.length) : (zs.take (k + 1)).sum = (zs.take k).sum + zs[k] := by
  rw [List.take_succ_eq_append_getElem h, List.sum_append]; simp

theorem sum_bounds {zs : List Int} (h : ∀ z ∈ zs, 0 ≤ z ∧ z ≤ 1000000000000) : 0 ≤ zs.sum ∧ zs.sum ≤ zs.length * 1000000000000 := by
  induction zs with
  | nil => simp
  | cons z zs ih =>
    have h1 := ih fun y hy => h y (List.mem_cons_of_mem _ hy)
    have h2 := h z List.mem_cons_self
    simp only [List.sum_cons, List.length_cons]
    omega

set_option maxHeartbeats 400000 in
theorem sumOf_any (A : Option Addr) (cap : Nat) (zs : List Int) (w : World) (hA : Ints w A zs) (hr : ∀ z ∈ zs, 0 ≤ z ∧ z ≤ 1000000000000) (hl : zs.length ≤ 1000000) :
    Calls Tryz.prog 49 #[.slice A zs.length cap] w fun e w' => e = .returned (.int .i64 zs.sum) ∧ w = w' := by
  have HA := Lib.hid hA
  have HR := Lib.hid hr
  clear hA hr
  go_enter Tryz.func49, Tryz.ntmps49
  go_wp2
  go_loop [3, 8] (fun o t => ∃ i : Nat, i ≤ zs.length ∧ t = .int .i64 i ∧ o = .int .i64 (zs.take i).sum) (fun _ t => zs.length - (intOf t).toNat)
  case atStart => exact ⟨0, Nat.zero_le _, rfl, rfl⟩
  case round =>
    obtain ⟨i, hi, rfl, rfl⟩ := hrel
    have hs := sum_bounds (zs := zs.take i) fun z hz => HR.out z (List.mem_of_mem_take hz)
    rw [List.length_take, Nat.min_eq_left hi] at hs
    by_cases hlt : i < zs.length
    · obtain ⟨b, off, rfl, hc⟩ := HA.out i hlt
      have hz := HR.out _ (List.getElem_mem hlt)
      have hs1 := Lib.hid (sum_take hlt)
      generalize zs[i] = z at hc hz hs1
      generalize (zs.take i).sum = s0 at hs hs1 ⊢
      go_wp2
      go_round
      case rel => exact ⟨i + 1, by omega, by go_num, by rw [hs1.out]⟩
      case measure => simp [intOf]; omega
    · go_wp2
      go_ret
      exact ⟨ret_int (by rw [List.take_of_length_le (by omega)]), rfl⟩

end Go.Proofs.YtihcmifikbkbcaaGreatDoor

/- Sums, the order of remainders and the insertion sort of ints. -/
namespace Go.Proofs.YtihcmifikbkbcaaGreatDoor
set_option linter.unusedVariables false
open Go.RowKit

set_option maxHeartbeats 400000 in
theorem or_any (A : Option Addr) (cap : Nat) (zs : List Int) (w : World) (hA : Ints w A zs) (hl : zs.length ≤ 1000000) :
    Calls Tryz.prog 52 #[.slice A zs.length cap] w fun e w' => (∃ z, e = .returned (.int .i64 z)) ∧ w = w' := by
  have HA := Lib.hid hA
  clear hA
  go_enter Tryz.func52, Tryz.ntmps52
  go_wp2
  go_loop [8] (fun t => ∃ i : Nat, i ≤ zs.length ∧ t = .int .i64 i) (fun t => zs.length - (intOf t).toNat)
  case atStart => exact ⟨0, Nat.zero_le _, rfl⟩
  case round =>
    obtain ⟨i, hi, rfl⟩ := hrel
    by_cases hlt : i < zs.length
    · obtain ⟨b, off, rfl, hc⟩ := HA.out i hlt
      generalize zs[i] = z at hc
      by_cases hz : (z != 0) = true
      · go_wp2
        go_ret
        exact ⟨⟨z, rfl⟩, rfl⟩
      · have hz' : (z != 0) = false := by simpa using hz
        clear hz
        go_wp2
        go_round
        case rel => exact ⟨i + 1, by omega, by go_num⟩
        case measure => simp [intOf]; omega
    · go_wp2
      go_ret
      exact ⟨⟨0, rfl⟩, rfl⟩

set_option maxHeartbeats 1000000 in
set_option maxRecDepth 100000 in
/-- The order of two places by their remainders. -/
theorem byRest_any (H : Frz) (x y : Int) (p1 p2 p3 : Addr) (cents sum : Int) (A : Option Addr) (cap : Nat) (zs : List Int) (w : World) (hH : H.In w)
    (h1 : H.cell? p1 = some (.int .i64 cents)) (h2 : H.cell? p2 = some (.slice A zs.length cap)) (h3 : H.cell? p3 = some (.int .i64 sum))
    (hA : ∀ i (h : i < zs.length), ∃ b off, A = some ⟨b, off, none⟩ ∧ H.cell? ⟨b, off + i, none⟩ = some (.int .i64 zs[i]))
    (hs : sum ≠ 0) (hx0 : 0 ≤ x) (hx : x < zs.length) (hy0 : 0 ≤ y) (hy : y < zs.length) :
    Calls Tryz.prog 51 #[.int .i64 x, .int .i64 y, .pointer (some p1), .pointer (some p2), .pointer (some p3)] w fun e w' =>
      (∃ r, e = .returned (.int .i64 r)) ∧ Below w.heap.size w w' := by
  have c1 := hH.cell h1
  have c2 := hH.cell h2
  have c3 := hH.cell h3
  obtain ⟨i, rfl⟩ := Int.eq_ofNat_of_zero_le hx0
  obtain ⟨j, rfl⟩ := Int.eq_ofNat_of_zero_le hy0
  obtain ⟨b, off, rfl, hci⟩ := hA i (by omega)
  obtain ⟨b', off', e, hcj⟩ := hA j (by omega)
  obtain ⟨rfl, rfl⟩ : b = b' ∧ off = off' := by injection e with e; injection e with e1 e2; exact ⟨e1, e2⟩
  have ci := hH.cell hci
  have cj := hH.cell hcj
  generalize zs[i]'(by omega) = zi at ci
  generalize zs[j]'(by omega) = zj at cj
  have hs' : (sum == 0) = false := beq_eq_false_iff_ne.2 hs
  clear h1 h2 h3 hci hcj e hA hH
  go_enter Tryz.func51, Tryz.ntmps51
  go_wp2_with fail
  go_still_tail 20, (by kernel_rfl)
  still_call (Tryz.cmp_Compare_int _ _ _)
  repeat still_step
  still_call (Tryz.cmp_Compare_int _ _ _)
  repeat still_step
  refine wpStill_nil ?_
  change wpList _ _ _ _ _ w.drew
  generalize Lib.compareInt _ _ = r1
  generalize Lib.compareInt _ _ = r2
  go_wp2_with fail
  have hI : Ints (World.drew (w.alloc (.cells #[.int .i64 r1, .int .i64 r2] 3))) (some ⟨w.heap.size, 0, none⟩) [r1, r2] :=
    Ints.of_row (w := World.drew (w.alloc _)) (heap_at (w := w) rfl) rfl
  refine (or_any _ _ [r1, r2] _ hI (by simp)).mono ?_
  rintro e w' ⟨⟨z, rfl⟩, rfl⟩
  go_wp2_with fail
  go_ret
  exact ⟨⟨z, rfl⟩, ((Below.refl _ w).alloc (Nat.le_refl _) _).drew⟩

/-- A block of ints, some cells behind them. -/
def IBlk (w : World) (g : Nat) (zs : List Int) (rest : List Value) : Prop := w.heap[g]? = some (.cells (zs.map (Value.int .i64) ++ rest).toArray 3 (0, 0))
theorem IBlk.lt {w : World} {g : Nat} {zs : List Int} {rest : List Value} (h : IBlk w g zs rest) : g < w.heap.size := lt_of_heap h
theorem IBlk.cell {w : World} {g : Nat} {zs : List Int} {rest : List Value} (h : IBlk w g zs rest) (i : Nat) (hi : i < zs.length) : w.cell? ⟨g, i, none⟩ = some (.int .i64 zs[i]) := by
  unfold IBlk at h
  simp only [World.cell?, h]
  simp [List.getElem?_append_left, hi]
theorem IBlk.frozen {w : World} {g : Nat} {zs : List Int} {rest : List Value} (h : IBlk w g zs rest) (i : Nat) : w.frozen? ⟨g, i, none⟩ = false := by
  unfold IBlk at h
  simp [World.frozen?, h]
theorem IBlk.set_ {w : World} {g : Nat} {zs : List Int} {rest : List Value} (h : IBlk w g zs rest) (i : Nat) (hi : i < zs.length) (x : Int) : IBlk (w.setCell ⟨g, i, none⟩ (.int .i64 x)) g (zs.set i x) rest := by
  unfold IBlk at h ⊢
  simp only [World.setCell, Array.getElem?_modify, h]
  simp [List.map_set, List.set_append_left _ _ (show i < (zs.map (Value.int .i64)).length by simpa using hi)]
theorem IBlk.keep {w w' : World} {g : Nat} {zs : List Int} {rest : List Value} (h : IBlk w g zs rest) (hb : Below w.heap.size w w') : IBlk w' g zs rest := (hb.block g h.lt).trans h
theorem IBlk.drewN {w : World} {g : Nat} {zs : List Int} {rest : List Value} (h : IBlk w g zs rest) (n : Nat) : IBlk (w.drewN n) g zs rest := h

/-- What a comparison may do: return some number, make memory. -/
def CmpAt (H : Frz) (k : Nat) (caps : List Value) (ok : Int → Prop) : Prop :=
  ∀ (W : World) (a b : Int), H.In W → ok a → ok b → Calls Tryz.prog k (Value.int .i64 a :: Value.int .i64 b :: caps).toArray W fun e W' => (∃ r, e = .returned (.int .i64 r)) ∧ Below W.heap.size W W'

theorem results_none {fn : Func} (h : fn.results = #[]) (tmps : Array Value) (P : Program) (w : World) : (results fn tmps).run P w = .ok (.tuple #[]) w := by simp [results, h]
theorem grown_set {a b : World} {g o : Nat} {v : Value} (h : a.grownBy b (some g)) : a.grownBy (b.setCell ⟨g, o, none⟩ v) (some g) :=
  ⟨h.os, h.tape, h.output, by simpa [World.setCell] using h.size, fun k hk hne => (Below.heap_setCell b _ v k (fun e => hne (by rw [e]))).trans (h.block k hk hne)⟩
def SInv (H : Frz) (g n : Nat) (ok : Int → Prop) (rest : List Value) (w wr : World) : Prop :=
  ∃ ys : List Int, ys.length = n ∧ (∀ z ∈ ys, ok z) ∧ IBlk wr g ys rest ∧ w.grownBy wr (some g) ∧ H.In wr

set_option maxHeartbeats 2000000 in
set_option maxRecDepth 100000 in
theorem insort_any (H : Frz) (k : Nat) (caps : List Value) (ok : Int → Prop) (hcmp : CmpAt H k caps ok) (hcall : ∀ (a b : Value) (W : World), (callFunc k (a :: b :: caps).toArray).run Tryz.prog W = .ok (.enter k (a :: b :: caps).toArray) W) (g n cap : Nat) (zs : List Int) (rest : List Value) (w : World)
    (hn : zs.length = n) (hcap : n ≤ cap) (hn12 : n ≤ 12) (hH : H.In w) (hg : H g = none) (hB : IBlk w g zs rest) (hok : ∀ z ∈ zs, ok z) :
    Calls Tryz.prog 75 #[.slice (some ⟨g, 0, none⟩) n cap, .int .i64 0, .int .i64 n, .func (.func k) #[] caps.toArray] w fun e w' =>
      ∃ zs' : List Int, e = .returned (.tuple #[]) ∧ zs'.length = n ∧ (∀ z ∈ zs', ok z) ∧ IBlk w' g zs' rest ∧ w.grownBy w' (some g) ∧ H.In w' := by
  have HC := Lib.hid hcmp
  have HH := Lib.hid hH
  have HB := Lib.hid hB
  have HOK := Lib.hid hok
  have HN := Lib.hid hn
  clear hcmp hH hB hok hn
  go_enter Tryz.func75, Tryz.ntmps75
  have J0 : SInv H g n ok rest w w := ⟨zs, HN.out, HOK.out, HB.out, World.grownBy.refl _ _, HH.out⟩
  clear HH HB HOK HN
  go_wp2_with fail
  go_loopw [8] (fun t wr => ∃ i : Nat, 1 ≤ i ∧ i ≤ n + 1 ∧ t = .int .i64 i ∧ SInv H g n ok rest w wr) (fun t _ => n + 1 - (intOf t).toNat)
  case atStart => exact ⟨1, by omega, by omega, rfl, J0⟩
  case round =>
    obtain ⟨i, hi1, hi2, rfl, J⟩ := hrel
    by_cases hlt : i < n
    · obtain ⟨wo, rfl⟩ : ∃ wo : World, wo = wr := ⟨_, rfl⟩
      go_wp2_with fail
      go_loopw [9] (fun t wi => ∃ j : Nat, j ≤ i ∧ t = .int .i64 j ∧ SInv H g n ok rest w wi) (fun t _ => (intOf t).toNat)
      case atStart => exact ⟨i, by omega, rfl, J⟩
      case round =>
        obtain ⟨j, hj, rfl, Ji⟩ := hrel
        by_cases hj0 : 0 < j
        · obtain ⟨ys, y1, y2, y3, y4, y5⟩ := Ji
          have cj := y3.cell j (by omega)
          have cj1 := y3.cell (j - 1) (by omega)
          have fj := y3.frozen j
          have fj1 := y3.frozen (j - 1)
          have oj := Lib.hid (y2 _ (List.getElem_mem (show j < ys.length by omega)))
          have oj1 := Lib.hid (y2 _ (List.getElem_mem (show j - 1 < ys.length by omega)))
          generalize ys[j]'(by omega) = x at cj oj
          generalize ys[j - 1]'(by omega) = y at cj1 oj1
          have e1 : ((j : Int) - 1).toNat = j - 1 := by omega
          have e2 : IntKind.i64.wrap ((j : Int) - 1) = (j : Int) - 1 := IntWalk.i64_in _ (by omega)
          have e3 : (0 : Int) ≤ (j : Int) - 1 := by omega
          have e4 : (j : Int) - 1 < n := by omega
          have e5 : (j : Int) < n := by omega
          have e6 : 1 ≤ j := by omega
          have e7 : (1 : Int) ≤ (j : Int) := by omega
          have e8 : (j : Int) ≤ n := by omega
          have e9 : j ≤ n := by omega
          have e10 : (0 : Int) < (j : Int) := by omega
          have Y1 := Lib.hid y1
          have Y2 := Lib.hid y2
          have Y3 := Lib.hid y3
          have Y4 := Lib.hid y4
          have Y5 := Lib.hid y5
          clear y1 y2 y3 y4 y5
          go_wp2_with fail
          go_still_tail 14, (by kernel_rfl)
          change wpList _ _ _ _ _ wr.drew
          clear e1 e2
          go_wp2_with fail
          refine (HC.out wr.drew x y Y5.out oj.out oj1.out).mono ?_
          rintro e w1 ⟨⟨r, rfl⟩, hb1⟩
          have hb : Below wr.heap.size wr w1 := (Below.refl _ wr).drew.trans hb1
          have Z3 := Y3.out.keep hb
          have Z4 := Lib.hid (grown_below Y4.out hb)
          have Z5 := Lib.hid (Y5.out.below hb)
          have dj := Z3.cell j (by rw [Y1.out]; omega)
          have dj1 := Z3.cell (j - 1) (by rw [Y1.out]; omega)
          have fj := Z3.frozen j
          have fj1 := Z3.frozen (j - 1)
          have pj := Lib.hid (Y2.out _ (List.getElem_mem (show j < ys.length by rw [Y1.out]; omega)))
          have pj1 := Lib.hid (Y2.out _ (List.getElem_mem (show j - 1 < ys.length by rw [Y1.out]; omega)))
          generalize ys[j]'(by rw [Y1.out]; omega) = x' at dj pj
          generalize ys[j - 1]'(by rw [Y1.out]; omega) = y' at dj1 pj1
          have HZ3 := Lib.hid Z3
          clear Z3 hb hb1 Y3 Y4 Y5 oj oj1 cj cj1
          by_cases hr : r < 0
          · have ne1 : ¬ j = j - 1 := by omega
            have ne2 : ¬ j - 1 = j := by omega
            have e1 : ((j : Int) - 1).toNat = j - 1 := by omega
            go_upto_region 6 with (fail)
            go_region
            have JN : SInv H g n ok rest w (((w1.setCell ⟨g, j, none⟩ (.int .i64 y')).setCell ⟨g, j - 1, none⟩ (.int .i64 x')).drew) := by
              have hl := Y1.out
              refine ⟨(ys.set j y').set (j - 1) x', by simp [hl], fun z hz => ?_, ?_, ?_, ?_⟩
              · rcases List.mem_or_eq_of_mem_set hz with h | h
                · rcases List.mem_or_eq_of_mem_set h with h | h
                  · exact Y2.out z h
                  · rw [h]; exact pj1.out
                · rw [h]; exact pj.out
              · exact (HZ3.out.set_ j (by omega) y').set_ (j - 1) (by simp [hl]; omega) x'
              · exact grown_drew (grown_set (grown_set Z4.out))
              · exact (Z5.out.setCell (p := ⟨g, j, none⟩) hg _).setCell (p := ⟨g, j - 1, none⟩) hg _
            clear dj dj1 fj fj1 HZ3 Z4 Z5 pj pj1
            go_wp2_with fail
            refine ⟨⟨j - 1, by omega, by rw [show ((j : Int) - 1) = ((j - 1 : Nat) : Int) from by omega], JN⟩, ?_⟩
            simp only [intOf]
            omega
          · have JN : SInv H g n ok rest w w1 := ⟨ys, Y1.out, Y2.out, HZ3.out, Z4.out, Z5.out⟩
            clear dj dj1 fj fj1 HZ3 Z4 Z5 pj pj1
            go_wp2_with fail
            refine ⟨⟨i + 1, by omega, by omega, by go_num, JN⟩, ?_⟩
            simp only [intOf]
            omega
        · have hj1 : j = 0 := by omega
          subst hj1
          go_wp2_with fail
          go_quiet (fail)
          go_wp2_with fail
          obtain ⟨ys, y1, y2, y3, y4, y5⟩ := Ji
          refine ⟨⟨i + 1, by omega, by omega, by go_num, ys, y1, y2, y3, grown_drewN' y4 _, y5⟩, ?_⟩
          simp only [intOf]
          omega
    · go_wp2_with fail
      go_end0
      obtain ⟨ys, y1, y2, y3, y4, y5⟩ := J
      exact ⟨ys, rfl, y1, y2, y3, y4, y5⟩

set_option maxHeartbeats 1000000 in
theorem pdq_any (H : Frz) (k : Nat) (caps : List Value) (ok : Int → Prop) (hcmp : CmpAt H k caps ok) (hcall : ∀ (a b : Value) (W : World), (callFunc k (a :: b :: caps).toArray).run Tryz.prog W = .ok (.enter k (a :: b :: caps).toArray) W) (g n cap : Nat) (l : Int) (zs : List Int) (rest : List Value) (w : World)
    (hn : zs.length = n) (hcap : n ≤ cap) (hn12 : n ≤ 12) (hH : H.In w) (hg : H g = none) (hB : IBlk w g zs rest) (hok : ∀ z ∈ zs, ok z) :
    Calls Tryz.prog 61 #[.slice (some ⟨g, 0, none⟩) n cap, .int .i64 0, .int .i64 n, .int .i64 l, .func (.func k) #[] caps.toArray] w fun e w' =>
      ∃ zs' : List Int, e = .returned (.tuple #[]) ∧ zs'.length = n ∧ (∀ z ∈ zs', ok z) ∧ IBlk w' g zs' rest ∧ w.grownBy w' (some g) ∧ H.In w' := by
  have HI := Lib.hid (insort_any H k caps ok hcmp hcall g n cap zs rest w hn hcap hn12 hH hg hB hok)
  clear hcmp hcall hH hB hok hn hg
  go_enter Tryz.func61, Tryz.ntmps61
  go_wp2_with fail
  refine wp_loop_rounds 1 ?_
  rw [rounds_succ]
  go_wp2_with fail
  refine HI.out.mono ?_
  rintro e w1 ⟨ys, rfl, y1, y2, y3, y4, y5⟩
  have Y := Lib.hid (show ys.length = n ∧ (∀ z ∈ ys, ok z) ∧ IBlk w1 g ys rest ∧ w.grownBy w1 (some g) ∧ H.In w1 from ⟨y1, y2, y3, y4, y5⟩)
  clear y1 y2 y3 y4 y5 HI
  go_wp2_with fail
  refine bodyPost_ret (results_none rfl _ _ _) rfl ?_
  exact ⟨ys, rfl, Y.out⟩

set_option maxHeartbeats 1000000 in
theorem sortFunc_any (H : Frz) (k : Nat) (caps : List Value) (ok : Int → Prop) (hcmp : CmpAt H k caps ok) (hcall : ∀ (a b : Value) (W : World), (callFunc k (a :: b :: caps).toArray).run Tryz.prog W = .ok (.enter k (a :: b :: caps).toArray) W) (g n cap : Nat) (zs : List Int) (rest : List Value) (w : World)
    (hn : zs.length = n) (hcap : n ≤ cap) (hn12 : n ≤ 12) (hH : H.In w) (hg : H g = none) (hB : IBlk w g zs rest) (hok : ∀ z ∈ zs, ok z) :
    Calls Tryz.prog 50 #[.slice (some ⟨g, 0, none⟩) n cap, .func (.func k) #[] caps.toArray] w fun e w' =>
      ∃ zs' : List Int, e = .returned (.tuple #[]) ∧ zs'.length = n ∧ (∀ z ∈ zs', ok z) ∧ IBlk w' g zs' rest ∧ w.grownBy w' (some g) ∧ H.In w' := by
  have HP := Lib.hid (fun l => pdq_any H k caps ok hcmp hcall g n cap l zs rest w hn hcap hn12 hH hg hB hok)
  clear hcmp hcall hH hB hok hn hg
  go_enter Tryz.func50, Tryz.ntmps50
  go_wp2_with fail
  refine (Tryz.bits_Len _ _ (by omega) (by omega)).mono ?_
  rintro e w1 ⟨rfl, rfl⟩
  go_wp2_with fail
  refine (HP.out _).mono ?_
  rintro e w2 ⟨ys, rfl, y1, y2, y3, y4, y5⟩
  have Y := Lib.hid (show ys.length = n ∧ (∀ z ∈ ys, ok z) ∧ IBlk w2 g ys rest ∧ w1.grownBy w2 (some g) ∧ H.In w2 from ⟨y1, y2, y3, y4, y5⟩)
  clear y1 y2 y3 y4 y5 HP
  go_wp2_with fail
  go_end0
  exact ⟨ys, rfl, Y.out⟩
end Go.Proofs.YtihcmifikbkbcaaGreatDoor

/- append of one element, with word of where the new slice lies; rows of ints. -/
namespace Go.Proofs.YtihcmifikbkbcaaGreatDoor
set_option linter.unusedVariables false
open Go.RowKit

theorem wpList_append1_at {P : Program} {wr : World} {ops : Array Oper} {rest : List Oper} {o : Oper} {a : Act} {Q : Exit → Act → World → Prop} (hgd : o.guard = none) (s x : Operand) (t : TypeId)
    (ho : o.op = .call { callee := .builtin .append, args := #[s, x], argTypes := #[t, t] })
    (B : Nat) (e : TypeId) (i : TypeInfo) (z : Value) (size bytes : Nat) (ht : P.underlying t = some (.slice e)) (hi : P.info? e = some i) (hz : i.zero = some z)
    (hsize : i.size = size) (hby : i.bytes = bytes) (hzs : z.cells.size = size) (hsz : 0 < size)
    (v : Value) (n : Nat) (xs : List Value) (hs : a.eval s = v) (hown : wr.ownsRow B e size v n xs)
    (cs : Array Value) (T : TypeId) (hx : a.eval x = .slice (some ⟨wr.heap.size, 0, none⟩) 1 1) (hcs : cs.size = size) (h1 : ∀ u ∈ cs.toList, u.oneCell' = true)
    (hn : n ≤ 4294967296) (hbytes : bytes ≤ 4096) (hB : B ≤ wr.heap.size)
    (h : ∀ v' w', w'.ownsRow B e size v' (n + 1) (xs ++ cs.toList) → wr.grownBy w' v.ownBlock → Below B wr w' → (v'.ownBlock = v.ownBlock ∨ ∃ g, v'.ownBlock = some g ∧ wr.heap.size < g) → wpList P ops Q rest (a.put o.dst v') w') :
    wpList P ops Q (o :: rest) a (wr.alloc (.cells cs T)) := by
  refine wpList_append_own_at _ hgd s x t ho B e i z size bytes ht hi hz hsize hby hzs hsz v n xs hs (hown.alloc _) ⟨wr.heap.size, 0, none⟩ 1 1 cs.toList hx (by simpa using hcs) ?_ h1 (by simp only [maxLen]; omega) ?_ (by simp; omega) ?_
  · intro j u hu
    have hj : j < cs.size := by have := (List.getElem?_eq_some_iff.1 hu).1; simpa using this
    rw [Addr.add_lit, World.cell?_alloc_new]
    simp at hu ⊢
    exact hu
  · have : (n + 1) * bytes ≤ 4294967297 * 4096 := Nat.mul_le_mul (by omega) hbytes
    omega
  · intro v' w' ho' hg' _ hat
    have hg := grown_alloc_left hg'
    refine h v' w' ho' hg (own_below hown hB hg) ?_
    rcases hat with hat | hat
    · exact Or.inl hat
    · exact Or.inr ⟨_, hat, by simp⟩

theorem infoInt : (Tryz.prog.info? 3).map (fun i => (i.zero, i.size, i.bytes)) = some (some (.int .i64 0), 1, 8) := by kernel_rfl

/-- A slice of ints of the call's own. -/
def IRow (w : World) (B : Nat) (v : Value) (zs : List Int) : Prop := w.ownsRow B 3 1 v zs.length (zs.map (Value.int .i64))
theorem IRow.own {w : World} {B : Nat} {v : Value} {zs : List Int} (h : IRow w B v zs) : w.ownsRow B 3 1 v zs.length (zs.map (Value.int .i64)) := h
theorem IRow.nil (w : World) (B : Nat) : IRow w B (.slice none 0 0) [] := World.ownsRow_nil _ _ _ _
theorem IRow.form {w : World} {B : Nat} {v : Value} {zs : List Int} (h : IRow w B v zs) (h0 : zs ≠ []) :
    ∃ g cap rest, v = .slice (some ⟨g, 0, none⟩) zs.length cap ∧ zs.length ≤ cap ∧ B ≤ g ∧ g < w.heap.size ∧ cap ≤ maxLen ∧ IBlk w g zs rest ∧ rest.length = cap - zs.length := by
  rcases h.2 with ⟨_, hl⟩ | ⟨g, cap, cur, hv, hB, hh, hle, hm, hs, ht⟩
  · exact absurd (List.eq_nil_of_length_eq_zero hl) h0
  · refine ⟨g, cap, cur.toList.drop zs.length, hv, hle, hB, lt_of_heap hh, hm, ?_, by simp [hs]⟩
    unfold IBlk
    rw [hh]
    rw [Nat.mul_one] at ht
    rw [← ht, List.take_append_drop]
theorem IRow.of_blk {w : World} {B g cap : Nat} {zs : List Int} {rest : List Value} (h : IBlk w g zs rest) (hB : B ≤ g) (hc : cap ≤ maxLen) (hle : zs.length ≤ cap) (hr : rest.length = cap - zs.length) : IRow w B (.slice (some ⟨g, 0, none⟩) zs.length cap) zs :=
  ⟨by simp, Or.inr ⟨g, cap, _, rfl, hB, h, hle, hc, by simp [hr]; omega, by simp⟩⟩
theorem IRow.kept {w w' : World} {B : Nat} {v : Value} {zs : List Int} (h : IRow w B v zs) {row : Option Nat} (hg : w.grownBy w' row) (hne : v.ownBlock = none ∨ v.ownBlock ≠ row) : IRow w' B v zs := World.ownsRow.kept h hg hne
theorem IRow.ints {w : World} {B : Nat} {v : Value} {zs : List Int} (h : IRow w B v zs) : ∃ A cap, v = .slice A zs.length cap ∧ Ints w A zs ∧ zs.length ≤ cap ∧ (∀ b off, A = some ⟨b, off, none⟩ → B ≤ b ∧ b < w.heap.size) := by
  by_cases h0 : zs = []
  · subst h0
    rcases h.2 with ⟨hv, hl⟩ | ⟨g, cap, cur, hv, hB, hh, hle, hm, hs, ht⟩
    · exact ⟨none, 0, hv, fun i hi => absurd hi (by simp), Nat.le_refl _, fun b off c => by cases c⟩
    · exact ⟨_, cap, hv, fun i hi => absurd hi (by simp), Nat.zero_le _, fun b off c => by injection c with c; injection c with c1; subst c1; exact ⟨hB, lt_of_heap hh⟩⟩
  · obtain ⟨g, cap, rest, hv, hle, hB, hlt, hm, hI, _⟩ := h.form h0
    refine ⟨_, cap, hv, fun i hi => ⟨g, 0, rfl, ?_⟩, hle, fun b off c => by injection c with c; injection c with c1; subst c1; exact ⟨hB, hlt⟩⟩
    rw [Nat.zero_add]
    exact hI.cell i hi
end Go.Proofs.YtihcmifikbkbcaaGreatDoor

/- measure.divide: the parts add up to the whole. -/
namespace Go.Proofs.YtihcmifikbkbcaaGreatDoor
set_option linter.unusedVariables false
open Go.RowKit

def ci (ws : List Nat) : List Int := ws.map fun z : Nat => (z : Int)
theorem ci_len (ws : List Nat) : (ci ws).length = ws.length := by simp [ci]
theorem ci_get {ws : List Nat} {i : Nat} (h : i < (ci ws).length) : (ci ws)[i] = ((ws[i]'(by rw [ci_len] at h; exact h) : Nat) : Int) := by simp [ci]
theorem ci_sum (ws : List Nat) : (ci ws).sum = (ws.sum : Int) := Hb.sum_cast ws
theorem ci_snoc (ws : List Nat) (z : Nat) : ci (ws ++ [z]) = ci ws ++ [(z : Int)] := by simp [ci]

/-- What lies below block n. -/
def Frz.low (w : World) (n : Nat) : Frz := fun b => if b < n then w.heap[b]? else none
theorem Frz.low_in {w W : World} {n : Nat} (h : Below n w W) (hn : n ≤ w.heap.size) : (Frz.low w n).In W := fun b o e => by
  unfold Frz.low at e
  split at e
  · rename_i hb
    exact (h.block b hb).trans e
  · cases e
theorem Frz.low_none {w : World} {n b : Nat} (h : n ≤ b) : Frz.low w n b = none := by unfold Frz.low; rw [if_neg (by omega)]
theorem Frz.low_cell {w : World} {n : Nat} {p : Addr} {v : Value} (h : p.block < n) (hs : p.spot = none) (e : w.cell? p = some v) : (Frz.low w n).cell? p = some v := by
  unfold Frz.cell? Frz.low
  rw [if_pos h]
  unfold World.cell? at e
  revert e
  cases w.heap[p.block]? with
  | none => intro e; cases e
  | some o =>
    cases o <;> intro e <;> first | (simp only [hs, Option.isSome_none] at e ⊢; exact e) | cases e

/-- Two rows that are filled side by side. -/
def Two (w : World) (B : Nat) (u v : Value) (xs ys : List Nat) (wr : World) : Prop :=
  IRow wr B u (ci xs) ∧ IRow wr B v (ci ys) ∧ (u.ownBlock = none ∨ v.ownBlock = none ∨ u.ownBlock ≠ v.ownBlock) ∧ Below B w wr

theorem two_ne {u v : Value} (h : u.ownBlock = none ∨ v.ownBlock = none ∨ u.ownBlock ≠ v.ownBlock) : v.ownBlock = none ∨ v.ownBlock ≠ u.ownBlock := by
  rcases h with h | h | h
  · cases e : v.ownBlock with
    | none => exact Or.inl rfl
    | some g => exact Or.inr (by rw [h]; simp)
  · exact Or.inl h
  · exact Or.inr (Ne.symm h)
theorem two_keep {wr w1 w2 : World} {B n1 : Nat} {u v v1 : Value} {xs ys : List Int} {us : List Value} {e : TypeId} (h1 : IRow wr B u xs) (h2 : IRow wr B v ys) (o1 : w1.ownsRow B e 1 v1 n1 us) (g1 : wr.grownBy w1 u.ownBlock) (g2 : w1.grownBy w2 v.ownBlock)
    (h : u.ownBlock = none ∨ v.ownBlock = none ∨ u.ownBlock ≠ v.ownBlock) (at1 : v1.ownBlock = u.ownBlock ∨ ∃ g, v1.ownBlock = some g ∧ wr.heap.size < g) : w2.ownsRow B e 1 v1 n1 us := by
  refine o1.kept g2 ?_
  rcases at1 with h' | ⟨g, h', hg⟩
  · rw [h']; exact two_ne (by rcases h with h | h | h <;> first | exact Or.inl h | exact Or.inr (Or.inl h) | exact Or.inr (Or.inr (Ne.symm h)))
  · right
    rw [h']
    intro c
    have := (h2.lt g c.symm).2
    omega

theorem two_next {W0 wr w1 w2 : World} {B i q : Nat} {u7 u8 v1 v2 : Value} {P : List Nat} (hlt : i < P.length) (hq : P[i] = q)
    (T1 : IRow wr B u7 (ci (P.take i))) (T2 : IRow wr B u8 (ci (List.range i))) (T3 : u7.ownBlock = none ∨ u8.ownBlock = none ∨ u7.ownBlock ≠ u8.ownBlock) (T4 : Below B W0 wr)
    (O1 : w1.ownsRow B 3 1 v1 ((ci (P.take i)).length + 1) ((ci (P.take i)).map (Value.int .i64) ++ [.int .i64 (q : Int)])) (G1 : wr.grownBy w1 u7.ownBlock) (A1 : v1.ownBlock = u7.ownBlock ∨ ∃ g, v1.ownBlock = some g ∧ wr.heap.size < g)
    (O1' : w2.ownsRow B 3 1 v1 ((ci (P.take i)).length + 1) ((ci (P.take i)).map (Value.int .i64) ++ [.int .i64 (q : Int)]))
    (O2 : w2.ownsRow B 3 1 v2 ((ci (List.range i)).length + 1) ((ci (List.range i)).map (Value.int .i64) ++ [.int .i64 (i : Int)])) (G2 : w1.grownBy w2 u8.ownBlock) (A2 : v2.ownBlock = u8.ownBlock ∨ ∃ g, v2.ownBlock = some g ∧ w1.heap.size < g) (hB : B ≤ wr.heap.size) :
    ∃ g cap, v1 = .slice (some ⟨g, 0, none⟩) (i + 1) cap ∧ i + 1 ≤ cap ∧ w2.cell? ⟨g, i, none⟩ = some (.int .i64 (q : Int)) ∧ Two W0 B v1 v2 (P.take (i + 1)) (List.range (i + 1)) w2 := by
  have e1 : ci (P.take (i + 1)) = ci (P.take i) ++ [(q : Int)] := by rw [List.take_succ_eq_append_getElem hlt, ci_snoc, hq]
  have e2 : ci (List.range (i + 1)) = ci (List.range i) ++ [(i : Int)] := by rw [List.range_succ, ci_snoc]
  have I1 : IRow w2 B v1 (ci (P.take (i + 1))) := by rw [e1]; unfold IRow; simpa using O1'
  have I2 : IRow w2 B v2 (ci (List.range (i + 1))) := by rw [e2]; unfold IRow; simpa using O2
  have hl1 : (ci (P.take (i + 1))).length = i + 1 := by rw [ci_len, List.length_take]; omega
  obtain ⟨g, cap, rest, hv, hle, hB', hlt', hm, hblk, hr⟩ := I1.form (by intro c; rw [c] at hl1; simp at hl1)
  rw [hl1] at hv hle
  have hc := hblk.cell i (by omega)
  have hget : (ci (P.take (i + 1)))[i]'(by omega) = (q : Int) := by simp [ci, hq]
  rw [hget] at hc
  refine ⟨g, cap, hv, hle, hc, I1, I2, ?_, ?_⟩
  · rcases A2 with A2 | ⟨g2, A2, hg2⟩
    · rcases A1 with A1 | ⟨g1, A1, hg1⟩
      · rw [A1, A2]; exact T3
      · cases e : u8.ownBlock with
        | none => right; left; rw [A2, e]
        | some q8 =>
          right; right
          rw [A1, A2, e]
          intro c
          injection c with c
          have := (T2.lt q8 e).2
          omega
    · right; right
      rw [A2]
      intro c
      have := (O1.lt g2 c).2
      omega
  · exact (T4.grown G1 (Nat.le_trans hB (Nat.le_refl _)) (fun k hk => (T1.lt k hk).1)).grown G2 (Nat.le_trans hB G1.size) (fun k hk => (T2.lt k hk).1)

/-- The second loop: the parts so far. -/
def DInv (W0 : World) (g7 g8 : Nat) (os : List Int) (rest7 rest8 : List Value) (c n m : Nat) (ps : List Nat) (wr : World) : Prop :=
  ps.length = n ∧ ps.sum = m ∧ IBlk wr g7 (ci ps) rest7 ∧ IBlk wr g8 os rest8 ∧ Below W0.heap.size W0 wr
theorem DInv.step {W0 wr : World} {g7 g8 : Nat} {os : List Int} {rest7 rest8 : List Value} {c n m o : Nat} {ps : List Nat} (h : DInv W0 g7 g8 os rest7 rest8 c n m ps wr) (ho : o < ps.length) (h78 : g7 ≠ g8) (hB7 : W0.heap.size ≤ g7) :
    DInv W0 g7 g8 os rest7 rest8 c n (m + 1) (ps.set o (ps[o] + 1)) (wr.setCell ⟨g7, o, none⟩ (.int .i64 ((ps[o] : Int) + 1))) := by
  obtain ⟨h1, h2, h3, h4, h5⟩ := h
  refine ⟨by simp [h1], by rw [Hb.sum_set ho, h2], ?_, ?_, h5.setCell hB7 _⟩
  · have := h3.set_ o (by rw [ci_len]; exact ho) ((ps[o] : Int) + 1)
    have e : (ci ps).set o ((ps[o] : Int) + 1) = ci (ps.set o (ps[o] + 1)) := by simp [ci, List.map_set]
    rw [e] at this
    exact this
  · exact (Below.heap_setCell wr ⟨g7, o, none⟩ _ g8 (fun e => h78 e.symm)).trans h4
def DPost (c n : Nat) (w : World) (e : Ending) (w' : World) : Prop := ∃ (v : Value) (ps : List Nat), e = .returned v ∧ ps.length = n ∧ ps.sum = c ∧ IRow w' w.heap.size v (ci ps) ∧ Below w.heap.size w w'
theorem divide_fin {w W0 wr : World} {g7 g8 cap7 : Nat} {os : List Int} {rest7 rest8 : List Value} {c n P lf j : Nat} {ps : List Nat} (hjl : ¬ j < lf) (hj : j ≤ lf) (hs : P + lf = c) (hB7 : W0.heap.size ≤ g7) (hm : cap7 ≤ maxLen) (hle : n ≤ cap7) (hr : rest7.length = cap7 - n)
    (h : DInv W0 g7 g8 os rest7 rest8 c n (P + j) ps wr) (hsz : W0.heap.size = w.heap.size + 3) (hb : Below w.heap.size w W0) : DPost c n w (.returned (.slice (some ⟨g7, 0, none⟩) n cap7)) wr := by
  obtain ⟨h1, h2, h3, h4, h5⟩ := h
  refine ⟨_, ps, rfl, h1, by omega, ?_, hb.trans (h5.mono (by omega))⟩
  have := IRow.of_blk (B := w.heap.size) h3 (by omega) hm (by rw [ci_len, h1]; exact hle) (by rw [ci_len, h1]; exact hr)
  rw [ci_len, h1] at this
  exact this

set_option maxHeartbeats 2000000 in
set_option maxRecDepth 100000 in
theorem divide_any (c : Nat) (ws : List Nat) (A : Option Addr) (cap : Nat) (w : World) (hA : Ints w A (ci ws)) (hl : ws.length ≤ 12) (hw : ∀ z ∈ ws, z ≤ 1000000) (h0 : 0 < ws.sum) (hc : c ≤ 1000000000000) :
    Calls Tryz.prog 35 #[.int .i64 c, .slice A ws.length cap] w (DPost c ws.length w) := by
  have HA := Lib.hid hA
  have HW := Lib.hid hw
  have HP := Lib.hid (Hb.parts_sum c ws h0)
  have hsb := Hb.sum_le hw
  have hs12 : ws.sum ≤ 12000000 := by
    have : ws.length * 1000000 ≤ 12 * 1000000 := Nat.mul_le_mul_right _ hl
    omega
  clear hA hw hsb
  obtain ⟨i0, hi0, hz0, hz1, hz2⟩ := info_parts infoInt
  go_enter Tryz.func35, Tryz.ntmps35
  go_wp2_with fail
  have HI1 : Ints ((w.alloc (.cells #[.int .i64 c] 3)).alloc (.cells #[.slice A ws.length cap] 22)) A (ci ws) := by
    intro i hi
    obtain ⟨b, off, hb, hc⟩ := HA.out i hi
    have hlt : b < w.heap.size := World.block_lt_of_cell? w _ hc
    refine ⟨b, off, hb, ?_⟩
    simp only [World.cell?] at hc ⊢
    rw [heap_lt (by simp; omega), heap_lt hlt]
    exact hc
  have hlen := ci_len ws
  rw [← hlen] at HI1 ⊢
  refine (sumOf_any A cap (ci ws) _ HI1 (by
    intro z hz
    obtain ⟨y, hy, rfl⟩ := List.mem_map.1 hz
    have := HW.out y hy
    constructor <;> omega) (by omega)).mono ?_
  rintro e w' ⟨rfl, rfl⟩
  rw [hlen, ci_sum]
  go_upto_region 2 with (fail)
  generalize hW0 : World.alloc _ _ = W0
  have hsz0 : W0.heap.size = w.heap.size + 3 := by rw [← hW0]; simp
  have hbw0 : Below w.heap.size w W0 := by
    rw [← hW0]
    exact (((Below.refl _ _).alloc (Nat.le_refl _) _).alloc (by simp <;> omega) _).alloc (by simp <;> omega) _
  have hc1 : W0.cell? ⟨w.heap.size, 0, none⟩ = some (.int .i64 c) := by
    rw [← hW0]; simp only [World.cell?]
    rw [heap_lt (by simp <;> omega), heap_lt (by simp), heap_at rfl]; rfl
  have hc2 : W0.cell? ⟨w.heap.size + 1, 0, none⟩ = some (.slice A ws.length cap) := by
    rw [← hW0]; simp only [World.cell?]
    rw [heap_lt (by simp), heap_at (by simp <;> omega)]; rfl
  have hc3 : W0.cell? ⟨w.heap.size + 1 + 1, 0, none⟩ = some (.int .i64 ws.sum) := by
    rw [← hW0]; simp only [World.cell?]
    rw [heap_at (by simp <;> omega)]; rfl
  have hI0 : Hid (Ints W0 A (ci ws)) := by
    intro i hi
    obtain ⟨b, off, hb, hc⟩ := HA.out i hi
    have hlt : b < w.heap.size := World.block_lt_of_cell? w _ hc
    exact ⟨b, off, hb, (World.cell?_of_block (a := ⟨b, off + i, none⟩) (hbw0.block b hlt)).trans hc⟩
  have HW0 := Lib.hid hW0
  clear hW0 hlen
  have hPl := Hb.parts_length c ws.sum ws
  have hPg : Hid (∀ i (h : i < (Hb.parts c ws.sum ws).length), (Hb.parts c ws.sum ws)[i] = c * ws[i]'(by rw [hPl] at h; exact h) / ws.sum) := fun i h => by simp [Hb.parts]
  generalize Hb.parts c ws.sum ws = P at HP hPl hPg
  go_wp2_with fail
  go_loopw [6, 7, 8, 18] (fun l u v t wr => ∃ i : Nat, i ≤ ws.length ∧ t = .int .i64 i ∧ l = .int .i64 ((c : Int) - ((P.take i).sum : Nat)) ∧ Two W0 W0.heap.size u v (P.take i) (List.range i) wr) (fun _ _ _ t _ => ws.length - (intOf t).toNat)
  case atStart => exact ⟨0, Nat.zero_le _, rfl, by simp, IRow.nil _ _, IRow.nil _ _, Or.inl rfl, Below.refl _ _⟩
  case round =>
    obtain ⟨i, hi, rfl, rfl, T1, T2, T3, T4⟩ := hrel
    have hst : (P.take i).sum ≤ c := Nat.le_trans (Hb.sum_take_le P i) HP.out.1
    have d1 := (World.cell?_of_block (a := ⟨w.heap.size, 0, none⟩) (T4.block (w.heap.size) (by omega))).trans hc1
    have d2 := (World.cell?_of_block (a := ⟨w.heap.size + 1, 0, none⟩) (T4.block (w.heap.size + 1) (by omega))).trans hc2
    have d3 := (World.cell?_of_block (a := ⟨w.heap.size + 1 + 1, 0, none⟩) (T4.block (w.heap.size + 1 + 1) (by omega))).trans hc3
    by_cases hlt : i < ws.length
    · obtain ⟨b, off, rfl, hci⟩ := hI0.out i (by rw [ci_len]; exact hlt)
      rw [ci_get] at hci
      have hbl : b < w.heap.size := by
        obtain ⟨b', off', e, h⟩ := HA.out i (by rw [ci_len]; exact hlt)
        injection e with e
        injection e with e1 e2
        subst e1
        exact World.block_lt_of_cell? w _ h
      have hz6 := HW.out _ (List.getElem_mem hlt)
      have hPi := Lib.hid (hPg.out i (by omega))
      have hts := Lib.hid (Hb.sum_take_succ (ws := P) (k := i) (by omega))
      have htk := Lib.hid (List.take_succ_eq_append_getElem (l := P) (i := i) (by omega))
      have hzs := Hb.mem_le_sum (List.getElem_mem hlt)
      have dci := (World.cell?_of_block (a := ⟨b, off + i, none⟩) (T4.block b (by omega))).trans hci
      clear hci
      generalize ws[i] = z at hz6 hPi hzs dci
      have hq : c * z / ws.sum ≤ c := Hb.parts_each hzs
      have hcz : c * z ≤ 1000000000000 * 1000000 := Nat.mul_le_mul hc hz6
      have m1 : IntKind.i64.wrap ((c : Int) * (z : Int)) = ((c * z : Nat) : Int) := by
        rw [Int.natCast_mul]
        refine IntWalk.i64_in _ ?_
        rw [← Int.natCast_mul]
        omega
      have m2 : Int.tdiv ((c * z : Nat) : Int) (ws.sum : Int) = ((c * z / ws.sum : Nat) : Int) := rfl
      have m3 : ((ws.sum : Int) == 0) = false := by simp; omega
      have hts' := Lib.hid ((hts.out).trans (by rw [hPi.out]))
      have htk' := Lib.hid ((htk.out).trans (by rw [hPi.out]))
      clear hts htk hPg
      generalize c * z / ws.sum = q at hq m2 hts' htk' hPi
      generalize c * z = cz at hcz m1 m2
      have tok1 : True := trivial
      have hlp : (ci (P.take i)).length ≤ 12 := by rw [ci_len, List.length_take]; omega
      have hlr : (ci (List.range i)).length ≤ 12 := by rw [ci_len, List.length_range]; omega
      have T1 := Lib.hid T1
      have T2 := Lib.hid T2
      have T3 := Lib.hid T3
      have hsz := T4.size
      go_wp2_with (first
        | (at_builtin; have _t := tok1; refine wpList_append1_at rfl (.tmp 23) (.tmp 29) 22 rfl W0.heap.size 3 i0 (.int .i64 0) 1 8 Tryz.underlying22 hi0 hz0 hz1 hz2 rfl (by decide) u7 _ _ rfl T1.out.own #[.int .i64 q] 3 rfl rfl (by simp [Value.oneCell']) (by omega) (by omega) hsz ?_; clear tok1 _t; intro v1 w1 o1 g1 b1 at1; have O1 := Lib.hid o1; have G1 := Lib.hid g1; have A1 := Lib.hid at1; have hsz1 := Nat.le_trans hsz g1.size; clear o1 g1 at1 b1; have T2' := Lib.hid (T2.out.kept G1.out (two_ne T3.out)); have tok2 : True := trivial)
        | (at_builtin; have _t := tok2; refine wpList_append1_at rfl (.tmp 31) (.tmp 33) 22 rfl W0.heap.size 3 i0 (.int .i64 0) 1 8 Tryz.underlying22 hi0 hz0 hz1 hz2 rfl (by decide) u8 _ _ rfl T2'.out.own #[.int .i64 i] 3 rfl rfl (by simp [Value.oneCell']) (by omega) (by omega) hsz1 ?_; clear tok2 _t; intro v2 w2 o2 g2 b2 at2; have O1' := Lib.hid (two_keep T1.out T2.out O1.out G1.out g2 T3.out A1.out); have O2 := Lib.hid o2; have G2 := Lib.hid g2; have A2 := Lib.hid at2; clear o2 g2 at2 b2; obtain ⟨g7, cap7, hv1, hle7, hc7, T'⟩ := two_next (by omega) hPi.out T1.out T2.out T3.out T4 O1.out G1.out A1.out O1'.out O2.out G2.out A2.out hsz; subst hv1; have TN := Lib.hid T'; clear T'))
      go_wp2_with fail
      go_roundw
      case rel => exact ⟨i + 1, by omega, by go_num, by rw [hts'.out]; congr 1; omega, TN.out⟩
      case measure => simp [intOf]; omega
    · obtain rfl : i = ws.length := by omega
      have hPt : P.take ws.length = P := List.take_of_length_le (by omega)
      rw [hPt] at T1 hst
      have hleft : ((c : Int) - ((P.take ws.length).sum : Nat)) = ((c - P.sum : Nat) : Int) := by rw [hPt]; omega
      rw [hleft]
      have hlf : c - P.sum ≤ ws.length := by have := HP.out; omega
      have hsum : Hid (P.sum + (c - P.sum) = c) := by have := HP.out.1; show _ = _; omega
      have hPc := HP.out.1
      generalize c - P.sum = lf at hlf hsum
      have hne : ws ≠ [] := by intro e; rw [e] at h0; simp at h0
      have hpos : 0 < ws.length := List.length_pos_iff.2 hne
      have hl8 : (ci (List.range ws.length)).length = ws.length := by rw [ci_len, List.length_range]
      have hl7 : (ci P).length = ws.length := by rw [ci_len, hPl]
      obtain ⟨g8, cap8, rest8, hv8, hle8, hB8, hlt8, hm8, hblk8, hr8⟩ := T2.form (by intro e; rw [e] at hl8; simp at hl8; omega)
      obtain ⟨g7, cap7, rest7, hv7, hle7, hB7, hlt7, hm7, hblk7, hr7⟩ := T1.form (by intro e; rw [e] at hl7; simp at hl7; omega)
      rw [hl8] at hv8 hle8 hr8
      rw [hl7] at hv7 hle7 hr7
      have h78 : g7 ≠ g8 := by
        rw [hv7, hv8] at T3
        rcases T3 with h | h | h
        · cases h
        · cases h
        · intro e; apply h; rw [e]; rfl
      subst hv8 hv7
      have hcmp : CmpAt (Frz.low W0 W0.heap.size) 51 [.pointer (some ⟨w.heap.size, 0, none⟩), .pointer (some ⟨w.heap.size + 1, 0, none⟩), .pointer (some ⟨w.heap.size + 1 + 1, 0, none⟩)] (fun z => 0 ≤ z ∧ z < ws.length) := by
        intro W a b hH ha hb
        refine byRest_any (Frz.low W0 W0.heap.size) a b ⟨w.heap.size, 0, none⟩ ⟨w.heap.size + 1, 0, none⟩ ⟨w.heap.size + 1 + 1, 0, none⟩ c ws.sum A cap (ci ws) W hH ?_ ?_ ?_ ?_ (by omega) ha.1 (by rw [ci_len]; exact ha.2) hb.1 (by rw [ci_len]; exact hb.2)
        · exact Frz.low_cell (by show w.heap.size < _; omega) rfl hc1
        · rw [ci_len]; exact Frz.low_cell (by show w.heap.size + 1 < _; omega) rfl hc2
        · exact Frz.low_cell (by show w.heap.size + 1 + 1 < _; omega) rfl hc3
        · intro j hj
          obtain ⟨b', off', e', h'⟩ := hI0.out j hj
          exact ⟨b', off', e', Frz.low_cell (World.block_lt_of_cell? W0 _ h') rfl h'⟩
      have HCMP := Lib.hid hcmp
      have HIN := Lib.hid (Frz.low_in T4 (Nat.le_refl _))
      have HB8 := Lib.hid hblk8
      have HB7 := Lib.hid hblk7
      have HR7 := Lib.hid hr7
      have HT4 := Lib.hid T4
      have hPe : Hid (∀ z ∈ P, z ≤ c) := fun z hz => Nat.le_trans (Hb.mem_le_sum hz) hPc
      have HPL := Lib.hid hPl
      clear hcmp T1 T2 T3 T4 hblk7 hblk8 hr7 hr8 hl7 hl8 hPt hleft hPl hc1 hc2 hc3 d1 d2 d3 HI1 HW0 HP hPg hst
      go_wp2_with fail
      refine (sortFunc_any (Frz.low W0 W0.heap.size) 51 _ (fun z => 0 ≤ z ∧ z < ws.length) HCMP.out (fun a b W => rfl) g8 ws.length cap8 (ci (List.range ws.length)) rest8 _ (by rw [ci_len, List.length_range]) hle8 hl HIN.out (Frz.low_none hB8) HB8.out ?_).mono ?_
      · intro z hz
        obtain ⟨y, hy, rfl⟩ := List.mem_map.1 hz
        have := List.mem_range.1 hy
        constructor <;> omega
      rintro e w1 ⟨os, rfl, o1, o2, o3, o4, o5⟩
      have O1 := Lib.hid o1
      have O2 := Lib.hid o2
      have B7 : Hid (IBlk w1 g7 (ci P) rest7) := (o4.block g7 hlt7 (fun e => h78 (by injection e))).trans HB7.out
      have B8 := Lib.hid o3
      have O4 := Lib.hid (HT4.out.grown o4 HT4.out.size (fun k hk => by injection hk with hk; omega))
      clear o1 o2 o3 o4 o5 HB7 HB8 HCMP HIN HT4
      go_wp2_with fail
      go_loopw [49] (fun t wr => ∃ (j : Nat) (ps : List Nat), j ≤ lf ∧ t = .int .i64 j ∧ DInv W0 g7 g8 os rest7 rest8 c ws.length (P.sum + j) ps wr) (fun t _ => lf - (intOf t).toNat)
      case atStart => exact ⟨0, P, by omega, rfl, HPL.out, rfl, B7.out, B8.out, O4.out⟩
      case round =>
        obtain ⟨j, ps, hj, rfl, J⟩ := hrel
        clear B7 B8 O4
        by_cases hjl : j < lf
        · have hos := O1.out
          have ho := O2.out _ (List.getElem_mem (show j < os.length by omega))
          have cj := J.2.2.2.1.cell j (by omega)
          generalize os[j]'(by omega) = o at cj ho
          obtain ⟨o, rfl⟩ := Int.eq_ofNat_of_zero_le ho.1
          have ho2 : o < ws.length := by omega
          have hpl := J.1
          have hol : o < ps.length := by omega
          have co := J.2.2.1.cell o (by rw [ci_len]; omega)
          rw [ci_get] at co
          have fo := J.2.2.1.frozen o
          have hov : ps[o] ≤ c := by
            have h1 := Hb.mem_le_sum (List.getElem_mem hol)
            have h2 := J.2.1
            have h3 := hsum.out
            omega
          have JN := Lib.hid (J.step hol h78 hB7)
          have hoc : (o : Int) < ws.length := by omega
          clear ho J hos hpl
          generalize ps[o] = y at co hov JN
          clear hol
          go_wp2_with fail
          go_roundw
          case rel => exact ⟨j + 1, _, by omega, by go_num, JN.out⟩
          case measure => simp [intOf]; omega
        · have JN := Lib.hid J
          clear J
          go_wp2_with fail
          go_ret
          exact divide_fin hjl hj hsum.out hB7 hm7 hle7 HR7.out JN.out hsz0 hbw0
end Go.Proofs.YtihcmifikbkbcaaGreatDoor

/- Sorting elements of 1 cells. -/
namespace Go.Proofs.YtihcmifikbkbcaaGreatDoor
set_option linter.unusedVariables false
open Go.RowKit

section
variable {D : Type}
/-- What a comparison does. -/
def CmpK_Dv (H : Frz) (f : D → Nat → Value) (kf : Nat) (caps : List Value) (c : D → D → Int) (ds : List D) : Prop :=
  ∀ (W : World) (a b : D), H.In W → a ∈ ds → b ∈ ds → Calls Tryz.prog kf ((f a 0 : Value) :: (f b 0 : Value) :: caps).toArray W fun e W' => e = .returned (.int .i64 (c a b)) ∧ Below W.heap.size W W'
/-- The sort's state. -/
def SW_Dv (H : Frz) (g T k : Nat) (f : D → Nat → Value) (rest : List Value) (w : World) (ys : List D) (wr : World) : Prop := KBlk wr g T k f ys rest ∧ w.grownBy wr (some g) ∧ H.In wr
theorem SW_mk_Dv {H : Frz} {g T k : Nat} {f : D → Nat → Value} {rest : List Value} {w : World} {ys : List D} {W : World} (h1 : KBlk W g T k f ys rest) (h2 : w.grownBy W (some g)) (h3 : H.In W) : Hid (SW_Dv H g T k f rest w ys W.drew) := ⟨h1, grown_drew h2, h3⟩

set_option maxHeartbeats 4000000 in
set_option maxRecDepth 100000 in
theorem insort_Dv (H : Frz) (f : D → Nat → Value) (kf : Nat) (caps : List Value) (c : D → D → Int) (ds : List D) (hf1 : ∀ d ∈ ds, ∃ z : Int, f d 0 = .int .i64 z) (hcmp : CmpK_Dv H f kf caps c ds) (hcall : ∀ (a b : Value) (W : World), (callFunc kf (a :: b :: caps).toArray).run Tryz.prog W = .ok (.enter kf (a :: b :: caps).toArray) W) (g n cap : Nat) (rest : List Value) (w : World)
    (hn : ds.length = n) (hcap : n ≤ cap) (hn12 : n ≤ 1000) (hH : H.In w) (hg : H g = none) (hB : KBlk w g 3 1 f ds rest) :
    Calls Tryz.prog 75 #[.slice (some ⟨g, 0, none⟩) n cap, .int .i64 0, .int .i64 n, .func (.func kf) #[] caps.toArray] w fun e w' =>
      e = .returned (.tuple #[]) ∧ SW_Dv H g 3 1 f rest w (isort (fun a b => decide (c a b < 0)) ds) w' := by
  have HC := Lib.hid hcmp
  have HN := Lib.hid hn
  have J0 : Hid (SW_Dv H g 3 1 f rest w ds w) := ⟨hB, World.grownBy.refl _ _, hH⟩
  have HF1 := Lib.hid hf1
  clear hcmp hH hB hn hf1
  go_enter Tryz.func75, Tryz.ntmps75
  go_wp2_with fail
  go_loopw [8] (fun t wr => ∃ (i : Nat) (ys : List D), 1 ≤ i ∧ (i ≤ n ∨ n = 0 ∧ i = 1) ∧ t = .int .i64 i ∧ Hid (ys = isort (fun a b => decide (c a b < 0)) (ds.take i) ++ ds.drop i) ∧ Hid (SW_Dv H g 3 1 f rest w ys wr)) (fun t _ => n + 1 - (intOf t).toNat)
  case atStart =>
    refine ⟨1, ds, by omega, by omega, rfl, ?_, J0⟩
    show ds = _
    cases ds with
    | nil => rfl
    | cons d ds => simp [isort, insLast]
  case round =>
    obtain ⟨i, ys, hi1, hi2, rfl, hys, J⟩ := hrel
    by_cases hlt : i < n
    · have hil : i < ds.length := by rw [HN.out]; exact hlt
      have hdr := List.drop_eq_getElem_cons hil
      have hx : Hid (∀ d, d ∈ isort (fun a b => decide (c a b < 0)) (ds.take i) → d ∈ ds) := fun d hd => List.mem_of_mem_take ((isort_perm _ _).mem_iff.1 hd)
      have hxm := Lib.hid (List.getElem_mem hil)
      have hR : Hid (∀ d, d ∈ ds.drop (i + 1) → d ∈ ds) := fun d hd => List.mem_of_mem_drop hd
      have hacl : (isort (fun a b => decide (c a b < 0)) (ds.take i)).length = i := by rw [isort_length, List.length_take]; omega
      have hRl : (ds.drop (i + 1)).length = n - (i + 1) := by rw [List.length_drop, HN.out]
      have hstep : Hid (isort (fun a b => decide (c a b < 0)) (ds.take (i + 1)) = insLast (fun a b => decide (c a b < 0)) ds[i] (isort (fun a b => decide (c a b < 0)) (ds.take i))) := by
        show _ = _
        rw [List.take_succ_eq_append_getElem hil, isort_snoc]
      have hys2 := hys.out
      rw [hdr] at hys2
      generalize isort (fun a b => decide (c a b < 0)) (ds.take i) = acc at hx hacl hstep hys2
      generalize hR' : ds.drop (i + 1) = R at hR hRl hys2
      have HRR := Lib.hid hR'
      generalize ds[i] = x at hxm hstep hys2
      have S0 : Hid (SIn (fun a b => decide (c a b < 0)) acc x R i ys) := by
        have := SIn.start (lt := fun a b => decide (c a b < 0)) acc R x
        rw [hacl, ← hys2] at this
        exact this
      have HACL := Lib.hid hacl
      have HRL := Lib.hid hRl
      clear hdr hys hys2 hR' hacl hRl J0
      obtain ⟨wo, rfl⟩ : ∃ wo : World, wo = wr := ⟨_, rfl⟩
      go_wp2_with fail
      go_loopw [9] (fun t wi => ∃ (j : Nat) (zs : List D), j ≤ i ∧ t = .int .i64 j ∧ Hid (SIn (fun a b => decide (c a b < 0)) acc x R j zs) ∧ Hid (SW_Dv H g 3 1 f rest w zs wi)) (fun t _ => (intOf t).toNat)
      case atStart => exact ⟨i, ys, by omega, rfl, S0, J⟩
      case round =>
        obtain ⟨j, zs, hj, rfl, SI, Ji⟩ := hrel
        clear S0 J
        have hzl : zs.length = n := by have := SI.out.length.1; rw [HACL.out, HRL.out] at this; omega
        by_cases hj0 : 0 < j
        · have hjn : j < zs.length := by omega
          have hj1n : j - 1 < zs.length := by omega
          have hzj : zs[j] = x := SI.out.at_ hjn
          have cj0 : wr.cell? ⟨g, j, none⟩ = some (f zs[j] 0) := by simpa using Ji.out.1.cell (j) 0 (hjn) (by omega)
          have dj0 : wr.cell? ⟨g, j - 1, none⟩ = some (f zs[j - 1] 0) := by simpa using Ji.out.1.cell (j - 1) 0 (hj1n) (by omega)
          rw [hzj] at cj0
          have hmy : Hid (zs[j - 1] ∈ ds) := by
            rcases SI.out.mem (List.getElem_mem hj1n) with h | h | h
            · exact hx.out _ h
            · show _ ∈ _; rw [h]; exact hxm.out
            · exact hR.out _ h
          have hsw := Lib.hid (fun h => SI.out.swap hj0 hjn h)
          have hdn := Lib.hid (fun (h : (fun a b => decide (c a b < 0)) x zs[j - 1] = false) => SI.out.done SI.out.length.1 (fun _ => h))
          generalize hyy : zs[j - 1] = y at dj0 hmy hsw hdn
          have HYY : Hid (∀ h : j - 1 < zs.length, zs[j - 1]'h = y) := fun _ => hyy
          have e1 : ((j : Int) - 1).toNat = j - 1 := by omega
          have e2 : IntKind.i64.wrap ((j : Int) - 1) = (j : Int) - 1 := IntWalk.i64_in _ (by omega)
          have e3 : (0 : Int) ≤ (j : Int) - 1 := by omega
          have e4 : (j : Int) - 1 < n := by omega
          have e5 : (j : Int) < n := by omega
          have e6 : 1 ≤ j := by omega
          have e7 : (1 : Int) ≤ (j : Int) := by omega
          have e8 : (j : Int) ≤ n := by omega
          have e9 : j ≤ n := by omega
          have e10 : (0 : Int) < (j : Int) := by omega
          have HZL := Lib.hid hzl
          clear hyy hzj hzl hjn hj1n
          go_wp2_with fail
          go_still_tail 14, (by kernel_rfl)
          change wpList _ _ _ _ _ wr.drew
          clear e1 e2
          go_wp2_with fail
          refine (HC.out wr.drew x y Ji.out.2.2 hxm.out hmy.out).mono ?_
          rintro e w1 ⟨rfl, hb1⟩
          have hb : Below wr.heap.size wr w1 := (Below.refl _ wr).drew.trans hb1
          have Z3 := Ji.out.1.keep hb
          have Z4 := Lib.hid (grown_below Ji.out.2.1 hb)
          have Z5 := Lib.hid (Ji.out.2.2.below hb)
          have hjn : j < zs.length := by rw [HZL.out]; omega
          clear cj0 dj0
          have hj1n : j - 1 < zs.length := by rw [HZL.out]; omega
          have hzj : zs[j] = x := SI.out.at_ hjn
          have cj0 : w1.cell? ⟨g, j, none⟩ = some (f zs[j] 0) := by simpa using Z3.cell (j) 0 (hjn) (by omega)
          have dj0 : w1.cell? ⟨g, j - 1, none⟩ = some (f zs[j - 1] 0) := by simpa using Z3.cell (j - 1) 0 (hj1n) (by omega)
          have fj0 := Z3.frozen (j)
          have gj0 := Z3.frozen (j - 1)
          rw [hzj] at cj0
          rw [HYY.out hj1n] at dj0
          have ZP := Lib.hid ((Z3.put j hjn y).put (j - 1) (by simp; omega) x)
          have Z3h := Lib.hid Z3
          clear Z3 hb hb1 Ji hjn hj1n hzj HYY
          by_cases hr : c x y < 0
          · have JS := Lib.hid (hsw.out (by simpa using hr))
            have na0 : ¬ j = j - 1 := by omega
            have nb0 : ¬ j - 1 = j := by omega
            have e1 : ((j : Int) - 1).toNat = j - 1 := by omega
            obtain ⟨vx, hvx⟩ := HF1.out x hxm.out
            obtain ⟨vy, hvy⟩ := HF1.out y hmy.out
            rw [hvx] at cj0
            rw [hvy] at dj0
            have hmx : (List.range 1).map (f x) = [.int .i64 vx] := by rw [← hvx]; rfl
            have hmy : (List.range 1).map (f y) = [.int .i64 vy] := by rw [← hvy]; rfl
            have JN0 := SW_mk_Dv ZP.out (setK_grown _ _ (setK_grown _ _ Z4.out)) (setK_in _ _ (setK_in _ _ Z5.out hg) hg)
            simp only [Nat.mul_one, hmx, hmy, setK] at JN0
            have JN : Hid (SW_Dv H g 3 1 f rest w ((zs.set j y).set (j - 1) x) (World.drew ((w1.setCell ⟨g, j, none⟩ (.int .i64 vy)).setCell ⟨g, j - 1, none⟩ (.int .i64 vx)))) := JN0
            have e7 : IntKind.i64.wrap ((j : Int) - 1) = (j : Int) - 1 := IntWalk.i64_in _ (by omega)
            clear JN0 hmx hmy hvx hvy
            go_upto_region 6 with (fail)
            go_region
            clear e7 cj0 dj0 fj0 gj0 ZP Z4 Z5 hsw hdn na0 nb0
            go_wp2_with fail
            refine ⟨⟨j - 1, _, by omega, by rw [show ((j : Int) - 1) = ((j - 1 : Nat) : Int) from by omega], JS, JN⟩, ?_⟩
            simp only [intOf]
            omega
          · have hzz := Lib.hid (hdn.out (by simpa using hr))
            have JN : Hid (SW_Dv H g 3 1 f rest w zs w1) := ⟨Z3h.out, Z4.out, Z5.out⟩
            clear cj0 dj0 fj0 gj0 ZP Z4 Z5 hsw hdn
            go_wp2_with fail
            refine ⟨⟨i + 1, zs, by omega, by omega, by go_num, ?_, JN⟩, ?_⟩
            · show _ = _
              rw [hstep.out, HRR.out]
              exact hzz.out
            · simp only [intOf]
              omega
        · have hj1 : j = 0 := by omega
          subst hj1
          have hzz := Lib.hid (SI.out.done SI.out.length.1 (fun h => absurd h (by omega)))
          have HZL := Lib.hid hzl
          clear hzl
          go_wp2_with fail
          go_quiet (fail)
          go_wp2_with fail
          refine ⟨⟨i + 1, zs, by omega, by omega, by go_num, ?_, Ji.out.1, grown_drewN' Ji.out.2.1 _, Ji.out.2.2⟩, ?_⟩
          · show _ = _
            rw [hstep.out, HRR.out]
            exact hzz.out
          · simp only [intOf]
            omega
    · have hys2 := Lib.hid (show ys = isort (fun a b => decide (c a b < 0)) ds by have := hys.out; rw [List.take_of_length_le (by rw [HN.out]; omega), List.drop_of_length_le (by rw [HN.out]; omega), List.append_nil] at this; exact this)
      go_wp2_with fail
      go_end0
      refine ⟨rfl, ?_⟩
      rw [← hys2.out]
      exact J.out

end
end Go.Proofs.YtihcmifikbkbcaaGreatDoor

/- SortFunc at elements of 1 cells. -/
namespace Go.Proofs.YtihcmifikbkbcaaGreatDoor
set_option linter.unusedVariables false
open Go.RowKit

section
variable {D : Type}

set_option maxHeartbeats 1000000 in
theorem pdq_Dv (H : Frz) (f : D → Nat → Value) (kf : Nat) (caps : List Value) (c : D → D → Int) (ds : List D) (hf1 : ∀ d ∈ ds, ∃ z : Int, f d 0 = .int .i64 z) (hcmp : CmpK_Dv H f kf caps c ds) (hcall : ∀ (a b : Value) (W : World), (callFunc kf (a :: b :: caps).toArray).run Tryz.prog W = .ok (.enter kf (a :: b :: caps).toArray) W) (g n cap : Nat) (lim : Int) (rest : List Value) (w : World)
    (hn : ds.length = n) (hcap : n ≤ cap) (hn20 : n ≤ 12) (hH : H.In w) (hg : H g = none) (hB : KBlk w g 3 1 f ds rest) :
    Calls Tryz.prog 61 #[.slice (some ⟨g, 0, none⟩) n cap, .int .i64 0, .int .i64 n, .int .i64 lim, .func (.func kf) #[] caps.toArray] w fun e w' =>
      e = .returned (.tuple #[]) ∧ SW_Dv H g 3 1 f rest w (isort (fun a b => decide (c a b < 0)) ds) w' := by
  have HI := Lib.hid (insort_Dv H f kf caps c ds hf1 hcmp hcall g n cap rest w hn hcap (by omega) hH hg hB)
  clear hcmp hcall hH hB hn hg hf1
  go_enter Tryz.func61, Tryz.ntmps61
  go_wp2_with fail
  refine wp_loop_rounds 1 ?_
  rw [rounds_succ]
  go_wp2_with fail
  refine HI.out.mono ?_
  rintro e w1 ⟨rfl, J⟩
  have J := Lib.hid J
  clear HI
  go_wp2_with fail
  (try simp only [Exit.inBlock, Exit.then])
  refine bodyPost_ret (results_none rfl _ _ _) rfl ?_
  exact ⟨rfl, J.out⟩
set_option maxHeartbeats 1000000 in
theorem sortFunc_Dv (H : Frz) (f : D → Nat → Value) (kf : Nat) (caps : List Value) (c : D → D → Int) (ds : List D) (hf1 : ∀ d ∈ ds, ∃ z : Int, f d 0 = .int .i64 z) (hcmp : CmpK_Dv H f kf caps c ds) (hcall : ∀ (a b : Value) (W : World), (callFunc kf (a :: b :: caps).toArray).run Tryz.prog W = .ok (.enter kf (a :: b :: caps).toArray) W) (v : Value) (B : Nat) (w : World)
    (hn20 : ds.length ≤ 12) (hH : H.In w) (hHB : ∀ g, v.ownBlock = some g → H g = none) (hO : Orow w B 3 1 f v ds) (hne : v ≠ .slice none 0 0) :
    Calls Tryz.prog 50 #[v, .func (.func kf) #[] caps.toArray] w fun e w' =>
      e = .returned (.tuple #[]) ∧ Orow w' B 3 1 f v (isort (fun a b => decide (c a b < 0)) ds) ∧ w.grownBy w' v.ownBlock ∧ H.In w' := by
  rcases hO.2 with ⟨rfl, h0⟩ | ⟨g, cap, cur, rfl, hBg, hh, hle, hm, hs, ht⟩
  · exact absurd rfl hne
  · have hK : KBlk w g 3 1 f ds (cur.toList.drop (ds.length * 1)) := by
      unfold KBlk
      rw [← ht, List.take_append_drop]
      exact hh
    have HI := Lib.hid (fun lim => pdq_Dv H f kf caps c ds hf1 hcmp hcall g ds.length cap lim _ w rfl hle hn20 hH (hHB g rfl) hK)
    have HL := Lib.hid (fun W => Tryz.bits_Len (ds.length : Int) W (by omega) (by omega))
    clear hcmp hcall hH hO hK hHB hf1 hne
    go_enter Tryz.func50, Tryz.ntmps50
    go_wp2_with fail
    refine (HL.out _).mono ?_
    rintro e w1 ⟨rfl, hw1⟩
    obtain rfl := hw1.symm
    go_wp2_with fail
    refine (HI.out _).mono ?_
    rintro e w1 ⟨rfl, J⟩
    have J := Lib.hid J
    clear HI
    go_wp2_with fail
    go_end0
    refine ⟨rfl, ?_, J.out.2.1, J.out.2.2⟩
    have h1 := J.out.1
    refine ⟨by rw [cellsOf_len], Or.inr ⟨g, cap, _, by rw [isort_length], hBg, h1, by rw [isort_length]; exact hle, hm, ?_, ?_⟩⟩
    · simp [cellsOf_len, isort_length, hs]
      have := Nat.mul_le_mul_right 1 hle
      omega
    · rw [isort_length]
      simp
      rw [List.take_left' (by rw [cellsOf_len, isort_length, Nat.mul_one])]
end
end Go.Proofs.YtihcmifikbkbcaaGreatDoor

/- measure.divide: the parts add up to the whole, and what has no weight gets nothing. -/
namespace Go.Proofs.YtihcmifikbkbcaaGreatDoor
set_option linter.unusedVariables false
open Go.RowKit
def fI1 (z : Nat) (_ : Nat) : Value := .int .i64 (z : Int)
theorem cells_fI1 (ds : List Nat) : cellsOf 1 fI1 ds = (ci ds).map (Value.int .i64) := by
  unfold cellsOf ci
  induction ds with
  | nil => rfl
  | cons d ds ih => rw [List.flatMap_cons, ih]; rfl
/-- What a place has left over. -/
def remD (c s : Nat) (ws : List Nat) (i : Nat) : Nat := match ws[i]? with | some z => c * z % s | none => 0
def cmpDv (c s : Nat) (ws : List Nat) (a b : Nat) : Int := orL [cmpI (remD c s ws b) (remD c s ws a), cmpI b a]
theorem cmpDv_lt {c s : Nat} {ws : List Nat} {a b : Nat} : decide (cmpDv c s ws a b < 0) = true ↔ (remD c s ws b < remD c s ws a ∨ (remD c s ws b = remD c s ws a ∧ b < a)) := by
  rw [decide_eq_true_eq]
  unfold cmpDv
  simp only [orL]
  generalize remD c s ws a = x
  generalize remD c s ws b = y
  by_cases h : cmpI (y : Int) (x : Int) = 0
  · rw [if_pos h]
    have h1 := cmpI_zero.1 h
    by_cases h2 : cmpI (b : Int) (a : Int) = 0
    · rw [if_pos h2]
      have := cmpI_zero.1 h2
      omega
    · rw [if_neg h2, cmpI_lt]
      omega
  · rw [if_neg h, cmpI_lt]
    have : ¬ ((y : Int) = x) := fun e => h (cmpI_zero.2 e)
    omega
theorem cmpDv_ge {c s : Nat} {ws : List Nat} {a b : Nat} : decide (cmpDv c s ws a b < 0) = false ↔ ¬ (remD c s ws b < remD c s ws a ∨ (remD c s ws b = remD c s ws a ∧ b < a)) := by
  rw [← cmpDv_lt]
  simp
def ordD (c s : Nat) (ws : List Nat) : List Nat := isort (fun a b => decide (cmpDv c s ws a b < 0)) (List.range ws.length)
theorem ordD_perm (c s : Nat) (ws : List Nat) : (ordD c s ws).Perm (List.range ws.length) := isort_perm _ _
theorem ordD_len (c s : Nat) (ws : List Nat) : (ordD c s ws).length = ws.length := by rw [(ordD_perm c s ws).length_eq, List.length_range]
theorem ordD_sorted (c s : Nat) (ws : List Nat) : (ordD c s ws).Pairwise fun a b => remD c s ws b ≤ remD c s ws a := by
  have := isort_sorted (lt := fun a b => decide (cmpDv c s ws a b < 0)) (fun a b h => by rw [cmpDv_ge]; rw [cmpDv_lt] at h; omega) (fun a b d h1 h2 => by rw [cmpDv_ge] at *; omega) (List.range ws.length)
  refine this.imp ?_
  intro a b h
  rw [cmpDv_ge] at h
  omega
theorem sum_rem (c s : Nat) (ws : List Nat) : ((List.range ws.length).map (remD c s ws)).sum + (Hb.parts c s ws).sum * s = c * ws.sum := by
  have e : (List.range ws.length).map (remD c s ws) = ws.map fun z => c * z % s := by
    apply List.ext_getElem
    · simp
    · intro i h1 h2
      simp only [List.length_map, List.length_range] at h1
      simp [remD, h1]
  rw [e]
  unfold Hb.parts
  clear e
  induction ws with
  | nil => simp
  | cons z ws ih =>
    simp only [List.map_cons, List.sum_cons]
    have h1 := Nat.mod_add_div (c * z) s
    rw [Nat.add_mul, Nat.mul_add, ← ih, Nat.mul_comm (c * z / s) s]
    omega
theorem sum_bound {l : List Nat} {f : Nat → Nat} {b : Nat} (h : ∀ x ∈ l, f x ≤ b) : (l.map f).sum ≤ l.length * b := by
  induction l with
  | nil => simp
  | cons x l ih =>
    simp only [List.map_cons, List.sum_cons, List.length_cons, Nat.succ_mul]
    have := h x (by simp)
    have := ih (fun y hy => h y (by simp [hy]))
    omega
/-- The places that get one more have something left over. -/
theorem ordD_pos {c : Nat} {ws : List Nat} (h0 : 0 < ws.sum) {j : Nat} (hj : j < c - (Hb.parts c ws.sum ws).sum) (hl : j < (ordD c ws.sum ws).length) : 0 < remD c ws.sum ws (ordD c ws.sum ws)[j] := by
  apply Classical.byContradiction
  intro hn
  have hz : remD c ws.sum ws (ordD c ws.sum ws)[j] = 0 := by omega
  have hs := sum_rem c ws.sum ws
  have hp : ((ordD c ws.sum ws).map (remD c ws.sum ws)).sum = ((List.range ws.length).map (remD c ws.sum ws)).sum := List.Perm.sum_nat ((ordD_perm c ws.sum ws).map _)
  have hsp : ((ordD c ws.sum ws).map (remD c ws.sum ws)).sum = (((ordD c ws.sum ws).take j).map (remD c ws.sum ws)).sum + (((ordD c ws.sum ws).drop j).map (remD c ws.sum ws)).sum := by
    rw [← List.sum_append_nat, ← List.map_append, List.take_append_drop]
  have hd : (((ordD c ws.sum ws).drop j).map (remD c ws.sum ws)).sum ≤ ((ordD c ws.sum ws).drop j).length * 0 := by
    refine sum_bound (fun x hx => ?_)
    obtain ⟨q, hq, rfl⟩ := List.getElem_of_mem hx
    rw [List.getElem_drop]
    rcases Nat.eq_zero_or_pos q with h | h
    · subst h
      simp only [Nat.add_zero]
      omega
    · have hql : j + q < (ordD c ws.sum ws).length := by simp at hq; omega
      have := List.pairwise_iff_getElem.1 (ordD_sorted c ws.sum ws) j (j + q) hl hql (by omega)
      omega
  have ht : (((ordD c ws.sum ws).take j).map (remD c ws.sum ws)).sum ≤ ((ordD c ws.sum ws).take j).length * (ws.sum - 1) := by
    refine sum_bound (fun x hx => ?_)
    unfold remD
    split
    · have := Nat.mod_lt (c * ‹Nat›) h0
      omega
    · omega
  rw [List.length_take] at ht
  have hjm : min j (ordD c ws.sum ws).length * (ws.sum - 1) ≤ j * (ws.sum - 1) := Nat.mul_le_mul_right _ (Nat.min_le_left _ _)
  have h1 : (c - (Hb.parts c ws.sum ws).sum) * ws.sum = c * ws.sum - (Hb.parts c ws.sum ws).sum * ws.sum := Nat.sub_mul _ _ _
  have h2 : (j + 1) * ws.sum ≤ (c - (Hb.parts c ws.sum ws).sum) * ws.sum := Nat.mul_le_mul_right _ hj
  have h3 : j * (ws.sum - 1) ≤ j * ws.sum := Nat.mul_le_mul_left _ (by omega)
  rw [Nat.succ_mul] at h2
  omega
theorem cmpLib (x y : Int) : Lib.compareInt x y = cmpI x y := by
  unfold Lib.compareInt cmpI
  split
  · rfl
  · split <;> split <;> omega
set_option maxHeartbeats 1000000 in
set_option maxRecDepth 100000 in
theorem byRestZ_any (H : Frz) (i j : Nat) (p1 p2 p3 : Addr) (c : Nat) (A : Option Addr) (cap : Nat) (ws : List Nat) (w : World) (hH : H.In w)
    (h1 : H.cell? p1 = some (.int .i64 (c : Int))) (h2 : H.cell? p2 = some (.slice A ws.length cap)) (h3 : H.cell? p3 = some (.int .i64 (ws.sum : Int)))
    (hA : ∀ i (h : i < (ci ws).length), ∃ b off, A = some ⟨b, off, none⟩ ∧ H.cell? ⟨b, off + i, none⟩ = some (.int .i64 (ci ws)[i]))
    (hs : 0 < ws.sum) (hi : i < ws.length) (hj : j < ws.length) (hl : ws.length ≤ 12) (hw : ∀ z ∈ ws, z ≤ 1000000) (hc : c ≤ 1000000000000) (hss : ws.sum ≤ 12000000) :
    Calls Tryz.prog 51 #[.int .i64 i, .int .i64 j, .pointer (some p1), .pointer (some p2), .pointer (some p3)] w fun e w' =>
      e = .returned (.int .i64 (cmpDv c ws.sum ws i j)) ∧ Below w.heap.size w w' := by
  have c1 := hH.cell h1
  have c2 := hH.cell h2
  have c3 := hH.cell h3
  obtain ⟨b, off, rfl, hci⟩ := hA i (by rw [ci_len]; exact hi)
  obtain ⟨b', off', e, hcj⟩ := hA j (by rw [ci_len]; exact hj)
  obtain ⟨rfl, rfl⟩ : b = b' ∧ off = off' := by injection e with e; injection e with e1 e2; exact ⟨e1, e2⟩
  have cI := hH.cell hci
  have cJ := hH.cell hcj
  rw [ci_get] at cI cJ
  have HV : Hid (cmpDv c ws.sum ws i j = orL [cmpI ((c * ws[j] % ws.sum : Nat) : Int) ((c * ws[i] % ws.sum : Nat) : Int), cmpI (j : Int) (i : Int)]) := by
    show _ = _
    unfold cmpDv remD
    rw [List.getElem?_eq_getElem hi, List.getElem?_eq_getElem hj]
  have hwi := hw _ (List.getElem_mem hi)
  have hwj := hw _ (List.getElem_mem hj)
  generalize cmpDv c ws.sum ws i j = res at HV
  generalize ws[i] = zi at *
  generalize ws[j] = zj at *
  have hci2 : c * zi ≤ 1000000000000 * 1000000 := Nat.mul_le_mul hc hwi
  have hcj2 : c * zj ≤ 1000000000000 * 1000000 := Nat.mul_le_mul hc hwj
  have m1 : IntKind.i64.wrap ((c : Int) * (zi : Int)) = ((c * zi : Nat) : Int) := by
    rw [Int.natCast_mul]; refine IntWalk.i64_in _ ?_; rw [← Int.natCast_mul]; omega
  have m2 : IntKind.i64.wrap ((c : Int) * (zj : Int)) = ((c * zj : Nat) : Int) := by
    rw [Int.natCast_mul]; refine IntWalk.i64_in _ ?_; rw [← Int.natCast_mul]; omega
  have m3 : Int.tmod ((c * zi : Nat) : Int) (ws.sum : Int) = ((c * zi % ws.sum : Nat) : Int) := rfl
  have m4 : Int.tmod ((c * zj : Nat) : Int) (ws.sum : Int) = ((c * zj % ws.sum : Nat) : Int) := rfl
  have k1 : c * zi % ws.sum < ws.sum := Nat.mod_lt _ hs
  have k2 : c * zj % ws.sum < ws.sum := Nat.mod_lt _ hs
  have hs' : ((ws.sum : Int) == 0) = false := by simp; omega
  have hii : (i : Int) < ws.length := by omega
  have hjj : (j : Int) < ws.length := by omega
  generalize c * zi % ws.sum = ri at *
  generalize c * zj % ws.sum = rj at *
  generalize c * zi = ai at *
  generalize c * zj = aj at *
  generalize ws.sum = S at *
  have hS0 : ¬ S = 0 := by omega
  have m5 : IntKind.i64.wrap (ri : Int) = (ri : Int) := IntWalk.i64_in _ (by omega)
  have m6 : IntKind.i64.wrap (rj : Int) = (rj : Int) := IntWalk.i64_in _ (by omega)
  clear h1 h2 h3 hci hcj e hA hH hwi hwj hci2 hcj2 hw
  go_enter Tryz.func51, Tryz.ntmps51
  go_wp2_with fail
  go_still_tail 20, (by kernel_rfl)
  still_call (Tryz.cmp_Compare_int _ _ _)
  repeat still_step
  still_call (Tryz.cmp_Compare_int _ _ _)
  repeat still_step
  refine wpStill_nil ?_
  change wpList _ _ _ _ _ w.drew
  simp only [cmpLib]
  generalize cmpI (rj : Int) (ri : Int) = r1 at *
  generalize cmpI (j : Int) (i : Int) = r2 at *
  go_wp2_with fail
  have hI : Ints (World.drew (w.alloc (.cells #[.int .i64 r1, .int .i64 r2] 3))) (some ⟨w.heap.size, 0, none⟩) [r1, r2] :=
    Ints.of_row (w := World.drew (w.alloc _)) (heap_at (w := w) rfl) rfl
  refine (orL_any _ _ [r1, r2] _ hI (by simp)).mono ?_
  rintro e w' ⟨rfl, rfl⟩
  rw [← HV.out]
  go_wp2_with fail
  go_ret
  exact ⟨rfl, ((Below.refl _ w).alloc (Nat.le_refl _) _).drew⟩
/-- What has no weight gets nothing. -/
def ZeroP (ws ps : List Nat) : Prop := ∀ i (h : i < ps.length) (h2 : i < ws.length), ws[i] = 0 → ps[i] = 0
/-- What divide leaves. -/
def DPostZ (c : Nat) (ws : List Nat) (w : World) (e : Ending) (w' : World) : Prop := ∃ (v : Value) (ps : List Nat), e = .returned v ∧ ps.length = ws.length ∧ ps.sum = c ∧ ZeroP ws ps ∧ IRow w' w.heap.size v (ci ps) ∧ Below w.heap.size w w'
theorem divide_finZ {w W0 wr : World} {g7 g8 cap7 : Nat} {os : List Int} {rest7 rest8 : List Value} {c P lf j : Nat} {ps ws : List Nat} (hjl : ¬ j < lf) (hj : j ≤ lf) (hs : P + lf = c) (hB7 : W0.heap.size ≤ g7) (hm : cap7 ≤ maxLen) (hle : ws.length ≤ cap7) (hr : rest7.length = cap7 - ws.length)
    (h : DInv W0 g7 g8 os rest7 rest8 c ws.length (P + j) ps wr) (hz : ZeroP ws ps) (hsz : W0.heap.size = w.heap.size + 3) (hb : Below w.heap.size w W0) : DPostZ c ws w (.returned (.slice (some ⟨g7, 0, none⟩) ws.length cap7)) wr := by
  obtain ⟨h1, h2, h3, h4, h5⟩ := h
  refine ⟨_, ps, rfl, h1, by omega, hz, ?_, hb.trans (h5.mono (by omega))⟩
  have := IRow.of_blk (B := w.heap.size) h3 (by omega) hm (by rw [ci_len, h1]; exact hle) (by rw [ci_len, h1]; exact hr)
  rw [ci_len, h1] at this
  exact this
set_option maxHeartbeats 2000000 in
set_option maxRecDepth 100000 in
theorem divideZ_any (c : Nat) (ws : List Nat) (A : Option Addr) (cap : Nat) (w : World) (hA : Ints w A (ci ws)) (hl : ws.length ≤ 12) (hw : ∀ z ∈ ws, z ≤ 1000000) (h0 : 0 < ws.sum) (hc : c ≤ 1000000000000) :
    Calls Tryz.prog 35 #[.int .i64 c, .slice A ws.length cap] w (DPostZ c ws w) := by
  have HA := Lib.hid hA
  have HW := Lib.hid hw
  have HP := Lib.hid (Hb.parts_sum c ws h0)
  have HOP := Lib.hid (fun j hj hl => ordD_pos (c := c) h0 (j := j) hj hl)
  have HOL := Lib.hid (ordD_len c ws.sum ws)
  have HOM := Lib.hid (fun z => (ordD_perm c ws.sum ws).mem_iff (a := z))
  have HOS : Hid (ordD c ws.sum ws = isort (fun a b => decide (cmpDv c ws.sum ws a b < 0)) (List.range ws.length)) := rfl
  have hsb := Hb.sum_le hw
  have hs12 : ws.sum ≤ 12000000 := by
    have : ws.length * 1000000 ≤ 12 * 1000000 := Nat.mul_le_mul_right _ hl
    omega
  have HW6 := Lib.hid hw
  clear hA hw hsb
  obtain ⟨i0, hi0, hz0, hz1, hz2⟩ := info_parts infoInt
  go_enter Tryz.func35, Tryz.ntmps35
  go_wp2_with fail
  have HI1 : Ints ((w.alloc (.cells #[.int .i64 c] 3)).alloc (.cells #[.slice A ws.length cap] 22)) A (ci ws) := by
    intro i hi
    obtain ⟨b, off, hb, hc⟩ := HA.out i hi
    have hlt : b < w.heap.size := World.block_lt_of_cell? w _ hc
    refine ⟨b, off, hb, ?_⟩
    simp only [World.cell?] at hc ⊢
    rw [heap_lt (by simp; omega), heap_lt hlt]
    exact hc
  have hlen := ci_len ws
  rw [← hlen] at HI1 ⊢
  refine (sumOf_any A cap (ci ws) _ HI1 (by
    intro z hz
    obtain ⟨y, hy, rfl⟩ := List.mem_map.1 hz
    have := HW.out y hy
    constructor <;> omega) (by omega)).mono ?_
  rintro e w' ⟨rfl, rfl⟩
  rw [hlen, ci_sum]
  go_upto_region 2 with (fail)
  generalize hW0 : World.alloc _ _ = W0
  have hsz0 : W0.heap.size = w.heap.size + 3 := by rw [← hW0]; simp
  have hbw0 : Below w.heap.size w W0 := by
    rw [← hW0]
    exact (((Below.refl _ _).alloc (Nat.le_refl _) _).alloc (by simp <;> omega) _).alloc (by simp <;> omega) _
  have hc1 : W0.cell? ⟨w.heap.size, 0, none⟩ = some (.int .i64 c) := by
    rw [← hW0]; simp only [World.cell?]
    rw [heap_lt (by simp <;> omega), heap_lt (by simp), heap_at rfl]; rfl
  have hc2 : W0.cell? ⟨w.heap.size + 1, 0, none⟩ = some (.slice A ws.length cap) := by
    rw [← hW0]; simp only [World.cell?]
    rw [heap_lt (by simp), heap_at (by simp <;> omega)]; rfl
  have hc3 : W0.cell? ⟨w.heap.size + 1 + 1, 0, none⟩ = some (.int .i64 ws.sum) := by
    rw [← hW0]; simp only [World.cell?]
    rw [heap_at (by simp <;> omega)]; rfl
  have hI0 : Hid (Ints W0 A (ci ws)) := by
    intro i hi
    obtain ⟨b, off, hb, hc⟩ := HA.out i hi
    have hlt : b < w.heap.size := World.block_lt_of_cell? w _ hc
    exact ⟨b, off, hb, (World.cell?_of_block (a := ⟨b, off + i, none⟩) (hbw0.block b hlt)).trans hc⟩
  have HW0 := Lib.hid hW0
  clear hW0 hlen
  have hPl := Hb.parts_length c ws.sum ws
  have hPg : Hid (∀ i (h : i < (Hb.parts c ws.sum ws).length), (Hb.parts c ws.sum ws)[i] = c * ws[i]'(by rw [hPl] at h; exact h) / ws.sum) := fun i h => by simp [Hb.parts]
  have HPZ : Hid (ZeroP ws (Hb.parts c ws.sum ws)) := fun i h h2 e => by rw [hPg.out i h, e]; simp
  generalize Hb.parts c ws.sum ws = P at HP hPl hPg HPZ HOP
  go_wp2_with fail
  go_loopw [6, 7, 8, 18] (fun l u v t wr => ∃ i : Nat, i ≤ ws.length ∧ t = .int .i64 i ∧ l = .int .i64 ((c : Int) - ((P.take i).sum : Nat)) ∧ Two W0 W0.heap.size u v (P.take i) (List.range i) wr) (fun _ _ _ t _ => ws.length - (intOf t).toNat)
  case atStart => exact ⟨0, Nat.zero_le _, rfl, by simp, IRow.nil _ _, IRow.nil _ _, Or.inl rfl, Below.refl _ _⟩
  case round =>
    obtain ⟨i, hi, rfl, rfl, T1, T2, T3, T4⟩ := hrel
    have hst : (P.take i).sum ≤ c := Nat.le_trans (Hb.sum_take_le P i) HP.out.1
    have d1 := (World.cell?_of_block (a := ⟨w.heap.size, 0, none⟩) (T4.block (w.heap.size) (by omega))).trans hc1
    have d2 := (World.cell?_of_block (a := ⟨w.heap.size + 1, 0, none⟩) (T4.block (w.heap.size + 1) (by omega))).trans hc2
    have d3 := (World.cell?_of_block (a := ⟨w.heap.size + 1 + 1, 0, none⟩) (T4.block (w.heap.size + 1 + 1) (by omega))).trans hc3
    by_cases hlt : i < ws.length
    · obtain ⟨b, off, rfl, hci⟩ := hI0.out i (by rw [ci_len]; exact hlt)
      rw [ci_get] at hci
      have hbl : b < w.heap.size := by
        obtain ⟨b', off', e, h⟩ := HA.out i (by rw [ci_len]; exact hlt)
        injection e with e
        injection e with e1 e2
        subst e1
        exact World.block_lt_of_cell? w _ h
      have hz6 := HW.out _ (List.getElem_mem hlt)
      have hPi := Lib.hid (hPg.out i (by omega))
      have hts := Lib.hid (Hb.sum_take_succ (ws := P) (k := i) (by omega))
      have htk := Lib.hid (List.take_succ_eq_append_getElem (l := P) (i := i) (by omega))
      have hzs := Hb.mem_le_sum (List.getElem_mem hlt)
      have dci := (World.cell?_of_block (a := ⟨b, off + i, none⟩) (T4.block b (by omega))).trans hci
      clear hci
      generalize ws[i] = z at hz6 hPi hzs dci
      have hq : c * z / ws.sum ≤ c := Hb.parts_each hzs
      have hcz : c * z ≤ 1000000000000 * 1000000 := Nat.mul_le_mul hc hz6
      have m1 : IntKind.i64.wrap ((c : Int) * (z : Int)) = ((c * z : Nat) : Int) := by
        rw [Int.natCast_mul]
        refine IntWalk.i64_in _ ?_
        rw [← Int.natCast_mul]
        omega
      have m2 : Int.tdiv ((c * z : Nat) : Int) (ws.sum : Int) = ((c * z / ws.sum : Nat) : Int) := rfl
      have m3 : ((ws.sum : Int) == 0) = false := by simp; omega
      have hts' := Lib.hid ((hts.out).trans (by rw [hPi.out]))
      have htk' := Lib.hid ((htk.out).trans (by rw [hPi.out]))
      clear hts htk hPg
      generalize c * z / ws.sum = q at hq m2 hts' htk' hPi
      generalize c * z = cz at hcz m1 m2
      have tok1 : True := trivial
      have hlp : (ci (P.take i)).length ≤ 12 := by rw [ci_len, List.length_take]; omega
      have hlr : (ci (List.range i)).length ≤ 12 := by rw [ci_len, List.length_range]; omega
      have T1 := Lib.hid T1
      have T2 := Lib.hid T2
      have T3 := Lib.hid T3
      have hsz := T4.size
      go_wp2_with (first
        | (at_builtin; have _t := tok1; refine wpList_append1_at rfl (.tmp 23) (.tmp 29) 22 rfl W0.heap.size 3 i0 (.int .i64 0) 1 8 Tryz.underlying22 hi0 hz0 hz1 hz2 rfl (by decide) u7 _ _ rfl T1.out.own #[.int .i64 q] 3 rfl rfl (by simp [Value.oneCell']) (by omega) (by omega) hsz ?_; clear tok1 _t; intro v1 w1 o1 g1 b1 at1; have O1 := Lib.hid o1; have G1 := Lib.hid g1; have A1 := Lib.hid at1; have hsz1 := Nat.le_trans hsz g1.size; clear o1 g1 at1 b1; have T2' := Lib.hid (T2.out.kept G1.out (two_ne T3.out)); have tok2 : True := trivial)
        | (at_builtin; have _t := tok2; refine wpList_append1_at rfl (.tmp 31) (.tmp 33) 22 rfl W0.heap.size 3 i0 (.int .i64 0) 1 8 Tryz.underlying22 hi0 hz0 hz1 hz2 rfl (by decide) u8 _ _ rfl T2'.out.own #[.int .i64 i] 3 rfl rfl (by simp [Value.oneCell']) (by omega) (by omega) hsz1 ?_; clear tok2 _t; intro v2 w2 o2 g2 b2 at2; have O1' := Lib.hid (two_keep T1.out T2.out O1.out G1.out g2 T3.out A1.out); have O2 := Lib.hid o2; have G2 := Lib.hid g2; have A2 := Lib.hid at2; clear o2 g2 at2 b2; obtain ⟨g7, cap7, hv1, hle7, hc7, T'⟩ := two_next (by omega) hPi.out T1.out T2.out T3.out T4 O1.out G1.out A1.out O1'.out O2.out G2.out A2.out hsz; subst hv1; have TN := Lib.hid T'; clear T'))
      go_wp2_with fail
      go_roundw
      case rel => exact ⟨i + 1, by omega, by go_num, by rw [hts'.out]; congr 1; omega, TN.out⟩
      case measure => simp [intOf]; omega
    · obtain rfl : i = ws.length := by omega
      have hPt : P.take ws.length = P := List.take_of_length_le (by omega)
      rw [hPt] at T1 hst
      have hleft : ((c : Int) - ((P.take ws.length).sum : Nat)) = ((c - P.sum : Nat) : Int) := by rw [hPt]; omega
      rw [hleft]
      have hlf : c - P.sum ≤ ws.length := by have := HP.out; omega
      have hsum : Hid (P.sum + (c - P.sum) = c) := by have := HP.out.1; show _ = _; omega
      have hPc := HP.out.1
      have HOP2 : Hid (∀ j (hj : j < c - P.sum) (hl : j < (ordD c ws.sum ws).length), 0 < remD c ws.sum ws (ordD c ws.sum ws)[j]) := fun j hj hl => HOP.out j hj hl
      clear HOP
      generalize c - P.sum = lf at hlf hsum HOP2
      have hne : ws ≠ [] := by intro e; rw [e] at h0; simp at h0
      have hpos : 0 < ws.length := List.length_pos_iff.2 hne
      have hl8 : (ci (List.range ws.length)).length = ws.length := by rw [ci_len, List.length_range]
      have hl7 : (ci P).length = ws.length := by rw [ci_len, hPl]
      obtain ⟨g8, cap8, rest8, hv8, hle8, hB8, hlt8, hm8, hblk8, hr8⟩ := T2.form (by intro e; rw [e] at hl8; simp at hl8; omega)
      obtain ⟨g7, cap7, rest7, hv7, hle7, hB7, hlt7, hm7, hblk7, hr7⟩ := T1.form (by intro e; rw [e] at hl7; simp at hl7; omega)
      rw [hl8] at hv8 hle8 hr8
      rw [hl7] at hv7 hle7 hr7
      have h78 : g7 ≠ g8 := by
        rw [hv7, hv8] at T3
        rcases T3 with h | h | h
        · cases h
        · cases h
        · intro e; apply h; rw [e]; rfl
      subst hv8 hv7
      have hcmp : CmpK_Dv (Frz.low W0 W0.heap.size) fI1 51 [.pointer (some ⟨w.heap.size, 0, none⟩), .pointer (some ⟨w.heap.size + 1, 0, none⟩), .pointer (some ⟨w.heap.size + 1 + 1, 0, none⟩)] (cmpDv c ws.sum ws) (List.range ws.length) := by
        intro W a b hH ha hb
        have ha := List.mem_range.1 ha
        have hb := List.mem_range.1 hb
        refine byRestZ_any (Frz.low W0 W0.heap.size) a b ⟨w.heap.size, 0, none⟩ ⟨w.heap.size + 1, 0, none⟩ ⟨w.heap.size + 1 + 1, 0, none⟩ c A cap ws W hH ?_ ?_ ?_ ?_ h0 ha hb hl HW6.out hc hs12
        · exact Frz.low_cell (by show w.heap.size < _; omega) rfl hc1
        · exact Frz.low_cell (by show w.heap.size + 1 < _; omega) rfl hc2
        · exact Frz.low_cell (by show w.heap.size + 1 + 1 < _; omega) rfl hc3
        · intro j hj
          obtain ⟨b', off', e', h'⟩ := hI0.out j hj
          exact ⟨b', off', e', Frz.low_cell (World.block_lt_of_cell? W0 _ h') rfl h'⟩
      have HCMP := Lib.hid hcmp
      have HIN := Lib.hid (Frz.low_in T4 (Nat.le_refl _))
      have HB8 := Lib.hid hblk8
      have HB7 := Lib.hid hblk7
      have HR7 := Lib.hid hr7
      have HR8 := Lib.hid hr8
      have HT4 := Lib.hid T4
      have hPe : Hid (∀ z ∈ P, z ≤ c) := fun z hz => Nat.le_trans (Hb.mem_le_sum hz) hPc
      have HPL := Lib.hid hPl
      clear hcmp T1 T2 T3 T4 hblk7 hblk8 hr7 hr8 hl7 hl8 hPt hleft hPl hc1 hc2 hc3 d1 d2 d3 HI1 HW0 HP hPg hst
      go_wp2_with fail
      have hO8 : Orow wr W0.heap.size 3 1 fI1 (.slice (some ⟨g8, 0, none⟩) ws.length cap8) (List.range ws.length) := by
        have h8 := HB8.out
        have hcl : cellsOf 1 fI1 (List.range ws.length) = (ci (List.range ws.length)).map (Value.int .i64) := cells_fI1 _
        refine ⟨by rw [cellsOf_len], Or.inr ⟨g8, cap8, _, by rw [List.length_range], hB8, h8, by rw [List.length_range]; exact hle8, hm8, ?_, ?_⟩⟩
        · simp [ci_len, HR8.out]; omega
        · rw [hcl]; simp [ci_len]
      have hsrt := sortFunc_Dv (Frz.low W0 W0.heap.size) fI1 51 _ (cmpDv c ws.sum ws) (List.range ws.length) (fun d _ => ⟨(d : Int), rfl⟩) HCMP.out (fun a b W => rfl) _ W0.heap.size wr (by rw [List.length_range]; exact hl) HIN.out (fun g hg => by injection hg with hg; subst hg; exact Frz.low_none hB8) hO8 (by simp)
      refine Calls.mono hsrt ?_
      clear hsrt hO8
      rintro e w1 ⟨rfl, o1, o4, o5⟩
      rw [← HOS.out] at o1
      have o4 : wr.grownBy w1 (some g8) := o4
      obtain ⟨g8', cap8', rest9, hv9, hle9, hB9, hlt9, hm9, hb9, hr9⟩ := o1.form (by intro e; have := HOL.out; rw [e] at this; simp at this; omega)
      have e9 : g8 = g8' ∧ cap8 = cap8' := by injection hv9 with h1 h2 h3; injection h1 with h1; injection h1 with h1; exact ⟨h1, h3⟩
      obtain ⟨rfl, rfl⟩ := e9
      clear hv9
      have o3 : IBlk w1 g8 (ci (ordD c ws.sum ws)) rest9 := by
        have h9 : w1.heap[g8]? = some (.cells (cellsOf 1 fI1 (ordD c ws.sum ws) ++ rest9).toArray 3 (0, 0)) := hb9
        rw [cells_fI1] at h9
        exact h9
      have HMO : Hid (∀ o ∈ ordD c ws.sum ws, o < ws.length) := fun o ho => List.mem_range.1 ((HOM.out o).1 ho)
      generalize ordD c ws.sum ws = od at *
      have B7 : Hid (IBlk w1 g7 (ci P) rest7) := (o4.block g7 hlt7 (fun e => h78 (by injection e))).trans HB7.out
      have B8 := Lib.hid o3
      have O4 := Lib.hid (HT4.out.grown o4 HT4.out.size (fun k hk => by injection hk with hk; omega))
      clear o1 o3 o4 o5 HB7 HB8 HCMP HIN HT4 hb9 HOS HOM HR8
      go_wp2_with fail
      go_loopw [49] (fun t wr => ∃ (j : Nat) (ps : List Nat), j ≤ lf ∧ t = .int .i64 j ∧ DInv W0 g7 g8 (ci od) rest7 rest9 c ws.length (P.sum + j) ps wr ∧ Hid (ZeroP ws ps)) (fun t _ => lf - (intOf t).toNat)
      case atStart => exact ⟨0, P, by omega, rfl, ⟨HPL.out, rfl, B7.out, B8.out, O4.out⟩, HPZ⟩
      case round =>
        obtain ⟨j, ps, hj, rfl, J, JZ⟩ := hrel
        clear B7 B8 O4
        by_cases hjl : j < lf
        · have hjo : j < od.length := by rw [HOL.out]; omega
          have cj := J.2.2.2.1.cell j (by rw [ci_len]; exact hjo)
          rw [ci_get] at cj
          have ho3 := HMO.out _ (List.getElem_mem hjo)
          have hrp := HOP2.out j hjl hjo
          generalize od[j] = o at *
          have hne : Hid (∀ h2 : o < ws.length, ws[o] ≠ 0) := fun h2 e => by
            unfold remD at hrp
            rw [List.getElem?_eq_getElem h2, e] at hrp
            simp at hrp
          clear hrp
          have ho2 : o < ws.length := ho3
          have hpl := J.1
          have hol : o < ps.length := by omega
          have co := J.2.2.1.cell o (by rw [ci_len]; omega)
          rw [ci_get] at co
          have fo := J.2.2.1.frozen o
          have hov : ps[o] ≤ c := by
            have h1 := Hb.mem_le_sum (List.getElem_mem hol)
            have h2 := J.2.1
            have h3 := hsum.out
            omega
          have JN := Lib.hid (J.step hol h78 hB7)
          have hoc : (o : Int) < ws.length := by omega
          have JZ2 : Hid (ZeroP ws (ps.set o (ps[o] + 1))) := fun i h h2 e => by
            rw [List.getElem_set]
            split
            · rename_i e2; subst e2; exact absurd e (hne.out h2)
            · exact JZ.out i (by simpa using h) h2 e
          clear J hpl JZ
          generalize ps[o] = y at co hov JN JZ2
          clear hol
          go_wp2_with fail
          go_roundw
          case rel => exact ⟨j + 1, _, by omega, by go_num, JN.out, JZ2⟩
          case measure => simp [intOf]; omega
        · have JN := Lib.hid J
          clear J
          go_wp2_with fail
          go_ret
          exact divide_finZ hjl hj hsum.out hB7 hm7 hle7 HR7.out JN.out JZ.out hsz0 hbw0
end Go.Proofs.YtihcmifikbkbcaaGreatDoor
