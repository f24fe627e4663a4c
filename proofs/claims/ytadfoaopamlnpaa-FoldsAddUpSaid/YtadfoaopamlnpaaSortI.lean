/- Sums, the order of remainders and the insertion sort of ints. -/
import Derived.Test.YtadfoaopamlnpaaMeas
import Derived.Test.YtadfoaopamlnpaaShelf
import Derived.Test.YtadfoaopamlnpaaApp
import Derived.StillTailTactics
import Derived.Deep.Cut
namespace Go.Proofs.Ytadfoaopamlnpaa
set_option linter.unusedVariables false
open Go.RowKit

set_option maxHeartbeats 400000 in
theorem or_any (A : Option Addr) (cap : Nat) (zs : List Int) (w : World) (hA : Ints w A zs) (hl : zs.length ≤ 1000000) :
    Calls Try.prog 95 #[.slice A zs.length cap] w fun e w' => (∃ z, e = .returned (.int .i64 z)) ∧ w = w' := by
  have HA := Lib.hid hA
  clear hA
  go_enter Try.func95, Try.ntmps95
  go_wp2
  go_loop [8] (fun t => ∃ i : Nat, i ≤ zs.length ∧ t = .int .i64 i) (fun t => zs.length - (intOf t).toNat)
  case atStart => exact ⟨0, Nat.zero_le _, rfl⟩
  case round =>
    obtain ⟨i, hi, rfl⟩ := hrel
    by_cases hlt : i < zs.length
    · obtain ⟨b, off, rfl, hc⟩ := HA.out i hlt
      generalize zs[i] = z at hc
      by_cases hz : (z != 0) = true
      · go_wp2
        go_ret
        exact ⟨⟨z, rfl⟩, rfl⟩
      · have hz' : (z != 0) = false := by simpa using hz
        clear hz
        go_wp2
        go_round
        case rel => exact ⟨i + 1, by omega, by go_num⟩
        case measure => simp [intOf]; omega
    · go_wp2
      go_ret
      exact ⟨⟨0, rfl⟩, rfl⟩

set_option maxHeartbeats 1000000 in
set_option maxRecDepth 100000 in
/-- The order of two places by their remainders. -/
theorem byRest_any (H : Frz) (x y : Int) (p1 p2 p3 : Addr) (cents sum : Int) (A : Option Addr) (cap : Nat) (zs : List Int) (w : World) (hH : H.In w)
    (h1 : H.cell? p1 = some (.int .i64 cents)) (h2 : H.cell? p2 = some (.slice A zs.length cap)) (h3 : H.cell? p3 = some (.int .i64 sum))
    (hA : ∀ i (h : i < zs.length), ∃ b off, A = some ⟨b, off, none⟩ ∧ H.cell? ⟨b, off + i, none⟩ = some (.int .i64 zs[i]))
    (hs : sum ≠ 0) (hx0 : 0 ≤ x) (hx : x < zs.length) (hy0 : 0 ≤ y) (hy : y < zs.length) :
    Calls Try.prog 94 #[.int .i64 x, .int .i64 y, .pointer (some p1), .pointer (some p2), .pointer (some p3)] w fun e w' =>
      (∃ r, e = .returned (.int .i64 r)) ∧ Below w.heap.size w w' := by
  have c1 := hH.cell h1
  have c2 := hH.cell h2
  have c3 := hH.cell h3
  obtain ⟨i, rfl⟩ := Int.eq_ofNat_of_zero_le hx0
  obtain ⟨j, rfl⟩ := Int.eq_ofNat_of_zero_le hy0
  obtain ⟨b, off, rfl, hci⟩ := hA i (by omega)
  obtain ⟨b', off', e, hcj⟩ := hA j (by omega)
  obtain ⟨rfl, rfl⟩ : b = b' ∧ off = off' := by injection e with e; injection e with e1 e2; exact ⟨e1, e2⟩
  have ci := hH.cell hci
  have cj := hH.cell hcj
  generalize zs[i]'(by omega) = zi at ci
  generalize zs[j]'(by omega) = zj at cj
  have hs' : (sum == 0) = false := beq_eq_false_iff_ne.2 hs
  clear h1 h2 h3 hci hcj e hA hH
  go_enter Try.func94, Try.ntmps94
  go_wp2_with fail
  go_still_tail 20, (by kernel_rfl)
  still_call (Try.cmp_Compare_int _ _ _)
  repeat still_step
  still_call (Try.cmp_Compare_int _ _ _)
  repeat still_step
  refine wpStill_nil ?_
  change wpList _ _ _ _ _ w.drew
  generalize Lib.compareInt _ _ = r1
  generalize Lib.compareInt _ _ = r2
  go_wp2_with fail
  have hI : Ints (World.drew (w.alloc (.cells #[.int .i64 r1, .int .i64 r2] 3))) (some ⟨w.heap.size, 0, none⟩) [r1, r2] :=
    Ints.of_row (w := World.drew (w.alloc _)) (heap_at (w := w) rfl) rfl
  refine (or_any _ _ [r1, r2] _ hI (by simp)).mono ?_
  rintro e w' ⟨⟨z, rfl⟩, rfl⟩
  go_wp2_with fail
  go_ret
  exact ⟨⟨z, rfl⟩, ((Below.refl _ w).alloc (Nat.le_refl _) _).drew⟩

/-- A block of ints, some cells behind them. -/
def IBlk (w : World) (g : Nat) (zs : List Int) (rest : List Value) : Prop := w.heap[g]? = some (.cells (zs.map (Value.int .i64) ++ rest).toArray 3 (0, 0))
theorem IBlk.lt {w : World} {g : Nat} {zs : List Int} {rest : List Value} (h : IBlk w g zs rest) : g < w.heap.size := lt_of_heap h
theorem IBlk.cell {w : World} {g : Nat} {zs : List Int} {rest : List Value} (h : IBlk w g zs rest) (i : Nat) (hi : i < zs.length) : w.cell? ⟨g, i, none⟩ = some (.int .i64 zs[i]) := by
  unfold IBlk at h
  simp only [World.cell?, h]
  simp [List.getElem?_append_left, hi]
theorem IBlk.frozen {w : World} {g : Nat} {zs : List Int} {rest : List Value} (h : IBlk w g zs rest) (i : Nat) : w.frozen? ⟨g, i, none⟩ = false := by
  unfold IBlk at h
  simp [World.frozen?, h]
theorem IBlk.set_ {w : World} {g : Nat} {zs : List Int} {rest : List Value} (h : IBlk w g zs rest) (i : Nat) (hi : i < zs.length) (x : Int) : IBlk (w.setCell ⟨g, i, none⟩ (.int .i64 x)) g (zs.set i x) rest := by
  unfold IBlk at h ⊢
  simp only [World.setCell, Array.getElem?_modify, h]
  simp [List.map_set, List.set_append_left _ _ (show i < (zs.map (Value.int .i64)).length by simpa using hi)]
theorem IBlk.keep {w w' : World} {g : Nat} {zs : List Int} {rest : List Value} (h : IBlk w g zs rest) (hb : Below w.heap.size w w') : IBlk w' g zs rest := (hb.block g h.lt).trans h
theorem IBlk.drewN {w : World} {g : Nat} {zs : List Int} {rest : List Value} (h : IBlk w g zs rest) (n : Nat) : IBlk (w.drewN n) g zs rest := h

/-- What a comparison may do: return some number, make memory. -/
def CmpAt (H : Frz) (k : Nat) (caps : List Value) (ok : Int → Prop) : Prop :=
  ∀ (W : World) (a b : Int), H.In W → ok a → ok b → Calls Try.prog k (Value.int .i64 a :: Value.int .i64 b :: caps).toArray W fun e W' => (∃ r, e = .returned (.int .i64 r)) ∧ Below W.heap.size W W'

theorem results_none {fn : Func} (h : fn.results = #[]) (tmps : Array Value) (P : Program) (w : World) : (results fn tmps).run P w = .ok (.tuple #[]) w := by simp [results, h]
theorem grown_below {a b c : World} {g : Nat} (h : a.grownBy b (some g)) (hb : Below b.heap.size b c) : a.grownBy c (some g) :=
  ⟨hb.os.trans h.os, hb.tape.trans h.tape, hb.output.trans h.output, Nat.le_trans h.size hb.size, fun k hk hne => (hb.block k (Nat.lt_of_lt_of_le hk h.size)).trans (h.block k hk hne)⟩
theorem grown_drew {a b : World} {row : Option Nat} (h : a.grownBy b row) : a.grownBy b.drew row := ⟨h.os, h.tape, h.output, h.size, h.block⟩
theorem grown_drewN' {a b : World} {row : Option Nat} (h : a.grownBy b row) (n : Nat) : a.grownBy (b.drewN n) row := ⟨h.os, h.tape, h.output, h.size, h.block⟩
theorem grown_set {a b : World} {g o : Nat} {v : Value} (h : a.grownBy b (some g)) : a.grownBy (b.setCell ⟨g, o, none⟩ v) (some g) :=
  ⟨h.os, h.tape, h.output, by simpa [World.setCell] using h.size, fun k hk hne => (Below.heap_setCell b _ v k (fun e => hne (by rw [e]))).trans (h.block k hk hne)⟩
def SInv (H : Frz) (g n : Nat) (ok : Int → Prop) (rest : List Value) (w wr : World) : Prop :=
  ∃ ys : List Int, ys.length = n ∧ (∀ z ∈ ys, ok z) ∧ IBlk wr g ys rest ∧ w.grownBy wr (some g) ∧ H.In wr

set_option maxHeartbeats 2000000 in
set_option maxRecDepth 100000 in
theorem insort_any (H : Frz) (k : Nat) (caps : List Value) (ok : Int → Prop) (hcmp : CmpAt H k caps ok) (hcall : ∀ (a b : Value) (W : World), (callFunc k (a :: b :: caps).toArray).run Try.prog W = .ok (.enter k (a :: b :: caps).toArray) W) (g n cap : Nat) (zs : List Int) (rest : List Value) (w : World)
    (hn : zs.length = n) (hcap : n ≤ cap) (hn12 : n ≤ 12) (hH : H.In w) (hg : H g = none) (hB : IBlk w g zs rest) (hok : ∀ z ∈ zs, ok z) :
    Calls Try.prog 122 #[.slice (some ⟨g, 0, none⟩) n cap, .int .i64 0, .int .i64 n, .func (.func k) #[] caps.toArray] w fun e w' =>
      ∃ zs' : List Int, e = .returned (.tuple #[]) ∧ zs'.length = n ∧ (∀ z ∈ zs', ok z) ∧ IBlk w' g zs' rest ∧ w.grownBy w' (some g) ∧ H.In w' := by
  have HC := Lib.hid hcmp
  have HH := Lib.hid hH
  have HB := Lib.hid hB
  have HOK := Lib.hid hok
  have HN := Lib.hid hn
  clear hcmp hH hB hok hn
  go_enter Try.func122, Try.ntmps122
  have J0 : SInv H g n ok rest w w := ⟨zs, HN.out, HOK.out, HB.out, World.grownBy.refl _ _, HH.out⟩
  clear HH HB HOK HN
  go_wp2_with fail
  go_loopw [8] (fun t wr => ∃ i : Nat, 1 ≤ i ∧ i ≤ n + 1 ∧ t = .int .i64 i ∧ SInv H g n ok rest w wr) (fun t _ => n + 1 - (intOf t).toNat)
  case atStart => exact ⟨1, by omega, by omega, rfl, J0⟩
  case round =>
    obtain ⟨i, hi1, hi2, rfl, J⟩ := hrel
    by_cases hlt : i < n
    · obtain ⟨wo, rfl⟩ : ∃ wo : World, wo = wr := ⟨_, rfl⟩
      go_wp2_with fail
      go_loopw [9] (fun t wi => ∃ j : Nat, j ≤ i ∧ t = .int .i64 j ∧ SInv H g n ok rest w wi) (fun t _ => (intOf t).toNat)
      case atStart => exact ⟨i, by omega, rfl, J⟩
      case round =>
        obtain ⟨j, hj, rfl, Ji⟩ := hrel
        by_cases hj0 : 0 < j
        · obtain ⟨ys, y1, y2, y3, y4, y5⟩ := Ji
          have cj := y3.cell j (by omega)
          have cj1 := y3.cell (j - 1) (by omega)
          have fj := y3.frozen j
          have fj1 := y3.frozen (j - 1)
          have oj := Lib.hid (y2 _ (List.getElem_mem (show j < ys.length by omega)))
          have oj1 := Lib.hid (y2 _ (List.getElem_mem (show j - 1 < ys.length by omega)))
          generalize ys[j]'(by omega) = x at cj oj
          generalize ys[j - 1]'(by omega) = y at cj1 oj1
          have e1 : ((j : Int) - 1).toNat = j - 1 := by omega
          have e2 : IntKind.i64.wrap ((j : Int) - 1) = (j : Int) - 1 := IntWalk.i64_in _ (by omega)
          have e3 : (0 : Int) ≤ (j : Int) - 1 := by omega
          have e4 : (j : Int) - 1 < n := by omega
          have e5 : (j : Int) < n := by omega
          have e6 : 1 ≤ j := by omega
          have e7 : (1 : Int) ≤ (j : Int) := by omega
          have e8 : (j : Int) ≤ n := by omega
          have e9 : j ≤ n := by omega
          have e10 : (0 : Int) < (j : Int) := by omega
          have Y1 := Lib.hid y1
          have Y2 := Lib.hid y2
          have Y3 := Lib.hid y3
          have Y4 := Lib.hid y4
          have Y5 := Lib.hid y5
          clear y1 y2 y3 y4 y5
          go_wp2_with fail
          go_still_tail 14, (by kernel_rfl)
          change wpList _ _ _ _ _ wr.drew
          clear e1 e2
          go_wp2_with fail
          refine (HC.out wr.drew x y Y5.out oj.out oj1.out).mono ?_
          rintro e w1 ⟨⟨r, rfl⟩, hb1⟩
          have hb : Below wr.heap.size wr w1 := (Below.refl _ wr).drew.trans hb1
          have Z3 := Y3.out.keep hb
          have Z4 := Lib.hid (grown_below Y4.out hb)
          have Z5 := Lib.hid (Y5.out.below hb)
          have dj := Z3.cell j (by rw [Y1.out]; omega)
          have dj1 := Z3.cell (j - 1) (by rw [Y1.out]; omega)
          have fj := Z3.frozen j
          have fj1 := Z3.frozen (j - 1)
          have pj := Lib.hid (Y2.out _ (List.getElem_mem (show j < ys.length by rw [Y1.out]; omega)))
          have pj1 := Lib.hid (Y2.out _ (List.getElem_mem (show j - 1 < ys.length by rw [Y1.out]; omega)))
          generalize ys[j]'(by rw [Y1.out]; omega) = x' at dj pj
          generalize ys[j - 1]'(by rw [Y1.out]; omega) = y' at dj1 pj1
          have HZ3 := Lib.hid Z3
          clear Z3 hb hb1 Y3 Y4 Y5 oj oj1 cj cj1
          by_cases hr : r < 0
          · have ne1 : ¬ j = j - 1 := by omega
            have ne2 : ¬ j - 1 = j := by omega
            have e1 : ((j : Int) - 1).toNat = j - 1 := by omega
            go_upto_region 6 with (fail)
            go_region
            have JN : SInv H g n ok rest w (((w1.setCell ⟨g, j, none⟩ (.int .i64 y')).setCell ⟨g, j - 1, none⟩ (.int .i64 x')).drew) := by
              have hl := Y1.out
              refine ⟨(ys.set j y').set (j - 1) x', by simp [hl], fun z hz => ?_, ?_, ?_, ?_⟩
              · rcases List.mem_or_eq_of_mem_set hz with h | h
                · rcases List.mem_or_eq_of_mem_set h with h | h
                  · exact Y2.out z h
                  · rw [h]; exact pj1.out
                · rw [h]; exact pj.out
              · exact (HZ3.out.set_ j (by omega) y').set_ (j - 1) (by simp [hl]; omega) x'
              · exact grown_drew (grown_set (grown_set Z4.out))
              · exact (Z5.out.setCell (p := ⟨g, j, none⟩) hg _).setCell (p := ⟨g, j - 1, none⟩) hg _
            clear dj dj1 fj fj1 HZ3 Z4 Z5 pj pj1
            go_wp2_with fail
            refine ⟨⟨j - 1, by omega, by rw [show ((j : Int) - 1) = ((j - 1 : Nat) : Int) from by omega], JN⟩, ?_⟩
            simp only [intOf]
            omega
          · have JN : SInv H g n ok rest w w1 := ⟨ys, Y1.out, Y2.out, HZ3.out, Z4.out, Z5.out⟩
            clear dj dj1 fj fj1 HZ3 Z4 Z5 pj pj1
            go_wp2_with fail
            refine ⟨⟨i + 1, by omega, by omega, by go_num, JN⟩, ?_⟩
            simp only [intOf]
            omega
        · have hj1 : j = 0 := by omega
          subst hj1
          go_wp2_with fail
          go_quiet (fail)
          go_wp2_with fail
          obtain ⟨ys, y1, y2, y3, y4, y5⟩ := Ji
          refine ⟨⟨i + 1, by omega, by omega, by go_num, ys, y1, y2, y3, grown_drewN' y4 _, y5⟩, ?_⟩
          simp only [intOf]
          omega
    · go_wp2_with fail
      go_end0
      obtain ⟨ys, y1, y2, y3, y4, y5⟩ := J
      exact ⟨ys, rfl, y1, y2, y3, y4, y5⟩

set_option maxHeartbeats 1000000 in
theorem pdq_any (H : Frz) (k : Nat) (caps : List Value) (ok : Int → Prop) (hcmp : CmpAt H k caps ok) (hcall : ∀ (a b : Value) (W : World), (callFunc k (a :: b :: caps).toArray).run Try.prog W = .ok (.enter k (a :: b :: caps).toArray) W) (g n cap : Nat) (l : Int) (zs : List Int) (rest : List Value) (w : World)
    (hn : zs.length = n) (hcap : n ≤ cap) (hn12 : n ≤ 12) (hH : H.In w) (hg : H g = none) (hB : IBlk w g zs rest) (hok : ∀ z ∈ zs, ok z) :
    Calls Try.prog 113 #[.slice (some ⟨g, 0, none⟩) n cap, .int .i64 0, .int .i64 n, .int .i64 l, .func (.func k) #[] caps.toArray] w fun e w' =>
      ∃ zs' : List Int, e = .returned (.tuple #[]) ∧ zs'.length = n ∧ (∀ z ∈ zs', ok z) ∧ IBlk w' g zs' rest ∧ w.grownBy w' (some g) ∧ H.In w' := by
  have HI := Lib.hid (insort_any H k caps ok hcmp hcall g n cap zs rest w hn hcap hn12 hH hg hB hok)
  clear hcmp hcall hH hB hok hn hg
  go_enter Try.func113, Try.ntmps113
  go_wp2_with fail
  refine wp_loop_rounds 1 ?_
  rw [rounds_succ]
  go_wp2_with fail
  refine HI.out.mono ?_
  rintro e w1 ⟨ys, rfl, y1, y2, y3, y4, y5⟩
  have Y := Lib.hid (show ys.length = n ∧ (∀ z ∈ ys, ok z) ∧ IBlk w1 g ys rest ∧ w.grownBy w1 (some g) ∧ H.In w1 from ⟨y1, y2, y3, y4, y5⟩)
  clear y1 y2 y3 y4 y5 HI
  go_wp2_with fail
  refine bodyPost_ret (results_none rfl _ _ _) rfl ?_
  exact ⟨ys, rfl, Y.out⟩

set_option maxHeartbeats 1000000 in
theorem sortFunc_any (H : Frz) (k : Nat) (caps : List Value) (ok : Int → Prop) (hcmp : CmpAt H k caps ok) (hcall : ∀ (a b : Value) (W : World), (callFunc k (a :: b :: caps).toArray).run Try.prog W = .ok (.enter k (a :: b :: caps).toArray) W) (g n cap : Nat) (zs : List Int) (rest : List Value) (w : World)
    (hn : zs.length = n) (hcap : n ≤ cap) (hn12 : n ≤ 12) (hH : H.In w) (hg : H g = none) (hB : IBlk w g zs rest) (hok : ∀ z ∈ zs, ok z) :
    Calls Try.prog 93 #[.slice (some ⟨g, 0, none⟩) n cap, .func (.func k) #[] caps.toArray] w fun e w' =>
      ∃ zs' : List Int, e = .returned (.tuple #[]) ∧ zs'.length = n ∧ (∀ z ∈ zs', ok z) ∧ IBlk w' g zs' rest ∧ w.grownBy w' (some g) ∧ H.In w' := by
  have HP := Lib.hid (fun l => pdq_any H k caps ok hcmp hcall g n cap l zs rest w hn hcap hn12 hH hg hB hok)
  clear hcmp hcall hH hB hok hn hg
  go_enter Try.func93, Try.ntmps93
  go_wp2_with fail
  refine (Try.bits_Len _ _ (by omega) (by omega)).mono ?_
  rintro e w1 ⟨rfl, rfl⟩
  go_wp2_with fail
  refine (HP.out _).mono ?_
  rintro e w2 ⟨ys, rfl, y1, y2, y3, y4, y5⟩
  have Y := Lib.hid (show ys.length = n ∧ (∀ z ∈ ys, ok z) ∧ IBlk w2 g ys rest ∧ w1.grownBy w2 (some g) ∧ H.In w2 from ⟨y1, y2, y3, y4, y5⟩)
  clear y1 y2 y3 y4 y5 HP
  go_wp2_with fail
  go_end0
  exact ⟨ys, rfl, Y.out⟩
end Go.Proofs.Ytadfoaopamlnpaa
