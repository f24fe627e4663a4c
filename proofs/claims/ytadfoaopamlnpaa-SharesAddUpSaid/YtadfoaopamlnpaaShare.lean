/- What is wrong with weights; sums; the weights that a stream makes. -/
import Derived.Test.YtadfoaopamlnpaaSigns
import Derived.Test.YtadfoaopamlnpaaApp2
namespace Go.Proofs.Ytadfoaopamlnpaa
set_option linter.unusedVariables false
open Go.RowKit

def wok (z : Int) : Bool := decide (0 ≤ z) && decide (z ≤ 1000000)
theorem wok_yes {z : Int} (h : wok z = true) : 0 ≤ z ∧ z ≤ 1000000 := by simpa [wok] using h
/-- What checkWeights says. -/
def cw (zs : List Int) : Int := if 12 < zs.length then 2 else if zs.all wok then (if zs.sum = 0 then 8 else 0) else 1
theorem cw_large {zs : List Int} (h : 12 < zs.length) : cw zs = 2 := by unfold cw; rw [if_pos h]
theorem cw_bad {zs : List Int} (h : zs.length ≤ 12) {i : Nat} (hi : i < zs.length) (hb : wok zs[i] = false) : cw zs = 1 := by
  have : ¬ zs.all wok = true := by
    intro c
    have := List.all_eq_true.1 c _ (List.getElem_mem hi)
    rw [hb] at this
    cases this
  unfold cw; rw [if_neg (by omega), if_neg this]
theorem cw_all {zs : List Int} (h : zs.length ≤ 12) (ha : zs.all wok = true) : cw zs = if zs.sum = 0 then 8 else 0 := by
  unfold cw; rw [if_neg (by omega), if_pos ha]
theorem cw_ok {zs : List Int} (h : cw zs = 0) : zs.length ≤ 12 ∧ (∀ z ∈ zs, 0 ≤ z ∧ z ≤ 1000000) ∧ zs.sum ≠ 0 := by
  unfold cw at h
  split at h
  · omega
  · split at h
    · rename_i h1 h2
      split at h
      · omega
      · exact ⟨by omega, fun z hz => wok_yes (List.all_eq_true.1 h2 z hz), by assumption⟩
    · omega
theorem take_all {zs : List Int} {i : Nat} (hi : i < zs.length) (h : (zs.take i).all wok = true) (hz : wok zs[i] = true) : (zs.take (i + 1)).all wok = true := by
  rw [List.take_succ_eq_append_getElem hi, List.all_append, h]; simp [hz]

set_option maxHeartbeats 1000000 in
theorem checkWeights_any (A : Option Addr) (cap : Nat) (zs : List Int) (w : World) (hA : Ints w A zs) (hl : zs.length ≤ 1000000) :
    Calls Try.prog 69 #[.slice A zs.length cap] w fun e w' => e = .returned (.int .i64 (cw zs)) ∧ w = w' := by
  have HA := Lib.hid hA
  clear hA
  by_cases h12 : 12 < zs.length
  · go_enter Try.func69, Try.ntmps69
    go_wp2_with fail
    go_ret
    exact ⟨ret_int (cw_large h12).symm, rfl⟩
  · go_enter Try.func69, Try.ntmps69
    go_wp2_with fail
    go_loop [4, 10] (fun _ t => ∃ i : Nat, i ≤ zs.length ∧ t = .int .i64 i ∧ Hid ((zs.take i).all wok = true)) (fun _ t => zs.length - (intOf t).toNat)
    case atStart => exact ⟨0, Nat.zero_le _, rfl, rfl⟩
    case round =>
      obtain ⟨i, hi, rfl, hall⟩ := hrel
      by_cases hlt : i < zs.length
      · obtain ⟨b, off, rfl, hc⟩ := HA.out i hlt
        cases hb : wok zs[i] with
        | false =>
          have HB := Lib.hid (cw_bad (by omega) hlt hb)
          have hbb : (decide (0 ≤ zs[i]) && decide (zs[i] ≤ 1000000)) = false := hb
          clear hb
          generalize zs[i] = z at hc hbb
          have HBB := Lib.hid hbb
          clear hbb
          go_wp2_with fail
          refine (within_any _ _ _ _).mono ?_
          rintro e w' ⟨rfl, rfl⟩
          rw [HBB.out]
          go_wp2_with fail
          go_ret
          exact ⟨ret_int HB.out.symm, rfl⟩
        | true =>
          have HB := Lib.hid (take_all hlt hall.out hb)
          have hbb : (decide (0 ≤ zs[i]) && decide (zs[i] ≤ 1000000)) = true := hb
          clear hb
          generalize zs[i] = z at hc hbb
          have HBB := Lib.hid hbb
          clear hbb
          go_wp2_with fail
          refine (within_any _ _ _ _).mono ?_
          rintro e w' ⟨rfl, rfl⟩
          rw [HBB.out]
          go_wp2_with fail
          go_round
          case rel => exact ⟨i + 1, by omega, by go_num, HB⟩
          case measure => simp [intOf]; omega
      · have hall' : zs.all wok = true := by
          have := hall.out
          rwa [List.take_of_length_le (by omega)] at this
        have hcw := Lib.hid (cw_all (by omega) hall')
        have hr := Lib.hid (fun z hz => wok_yes (List.all_eq_true.1 hall' z hz))
        clear hall' hall
        go_wp2_with fail
        refine (sumOf_any A cap zs _ HA.out (fun z hz => by have := hr.out z hz; omega) (by omega)).mono ?_
        rintro e w' ⟨rfl, rfl⟩
        cases h0 : (zs.sum == 0) with
        | true =>
          have H0 := Lib.hid h0
          generalize zs.sum = s at h0
          go_wp2_with fail
          go_ret
          exact ⟨ret_int (hcw.out.trans (if_pos (by simpa using H0.out))).symm, rfl⟩
        | false =>
          have H0 := Lib.hid h0
          generalize zs.sum = s at h0
          go_wp2_with fail
          go_ret
          exact ⟨ret_int (hcw.out.trans (if_neg (by simpa using H0.out))).symm, rfl⟩

set_option maxHeartbeats 400000 in
theorem total_any (A : Option Addr) (cap : Nat) (zs : List Int) (w : World) (hA : Ints w A zs) (hr : ∀ z ∈ zs, 0 ≤ z ∧ z ≤ 1000000000000) (hl : zs.length ≤ 1000000) :
    Calls Try.prog 30 #[.slice A zs.length cap] w fun e w' => e = .returned (.int .i64 zs.sum) ∧ w = w' := by
  have HA := Lib.hid hA
  have HR := Lib.hid hr
  clear hA hr
  go_enter Try.func30, Try.ntmps30
  go_wp2
  go_loop [3, 5, 8] (fun s _ t => ∃ i : Nat, i ≤ zs.length ∧ t = .int .i64 i ∧ s = .int .i64 (zs.take i).sum) (fun _ _ t => zs.length - (intOf t).toNat)
  case atStart => exact ⟨0, Nat.zero_le _, rfl, rfl⟩
  case round =>
    obtain ⟨i, hi, rfl, rfl⟩ := hrel
    have hb := sum_bounds (zs := zs.take i) fun z hz => HR.out z (List.mem_of_mem_take hz)
    have hl2 : (zs.take i).length ≤ i := List.length_take_le _ _
    by_cases hlt : i < zs.length
    · obtain ⟨b, off, rfl, hc⟩ := HA.out i hlt
      have hz := HR.out _ (List.getElem_mem hlt)
      have hs := Lib.hid (sum_take hlt)
      generalize zs[i] = z at hc hz hs
      go_wp2
      go_round
      case rel => exact ⟨i + 1, by omega, by go_num, by rw [hs.out]⟩
      case measure => simp [intOf]; omega
    · go_wp2
      go_ret
      exact ⟨ret_int (by rw [List.take_of_length_le (by omega)]), rfl⟩

section
variable {w W W' : World} {bs K : Nat} {H : Frz}
theorem Lw.grown (h : Lw w bs K H W) {row : Option Nat} (hg : W.grownBy W' row) (hr : ∀ g, row = some g → bs < g ∧ H g = none) : Lw w bs K H W' :=
  ⟨h.st.below ((Below.refl (bs + 1) W).grown hg h.lt (fun k hk => (hr k hk).1)), h.bel.grown hg h.bel.size (fun k hk => by have := (hr k hk).1; have := h.le; omega), h.le, h.fin.grown' hg (fun g hg => (hr g hg).2), h.apart⟩

/-- A row of ints that a law makes. -/
def WI (w : World) (bs K : Nat) (H : Frz) (B n : Nat) (v : Value) (zs : List Int) (wr : World) : Prop :=
  zs.length = n ∧ (∀ z ∈ zs, -1 ≤ z ∧ z ≤ 1000001) ∧ IRow wr B v zs ∧ Lw w bs K H wr ∧ B ≤ wr.heap.size ∧ bs < B ∧ ∀ g, B ≤ g → H g = none
theorem WI.pick {B n : Nat} {v : Value} {zs : List Int} (h : WI w bs K H B n v zs W) {K' : Nat} (L : Lw w bs K' H W') (g : W.grownBy W' (some bs)) : WI w bs K' H B n v zs W' := by
  obtain ⟨h1, h2, h3, h4, h5, h6, h7⟩ := h
  refine ⟨h1, h2, h3.kept g ?_, L, Nat.le_trans h5 g.size, h6, h7⟩
  cases e : v.ownBlock with
  | none => exact Or.inl rfl
  | some q =>
    right
    intro c
    injection c with c
    have := (h3.lt q e).1
    omega
theorem WI.app {B n : Nat} {v v' : Value} {zs : List Int} {z : Int} (h : WI w bs K H B n v zs W) (hz : -1 ≤ z ∧ z ≤ 1000001) (o : W'.ownsRow B 3 1 v' (zs.length + 1) (zs.map (Value.int .i64) ++ [.int .i64 z])) (g : W.grownBy W' v.ownBlock) :
    WI w bs K H B (n + 1) v' (zs ++ [z]) W' := by
  obtain ⟨h1, h2, h3, h4, h5, h6, h7⟩ := h
  refine ⟨by simp [h1], fun y hy => ?_, ?_, h4.grown g (fun q hq => ?_), Nat.le_trans h5 g.size, h6, h7⟩
  · rcases List.mem_append.1 hy with hy | hy
    · exact h2 y hy
    · simp at hy; rw [hy]; exact hz
  · unfold IRow
    simpa using o
  · have := (h3.lt q hq).1
    exact ⟨by omega, h7 q this⟩

def WPost (w : World) (bs K : Nat) (H : Frz) (B : Nat) (e : Ending) (W' : World) : Prop := ∃ v n zs, e = .returned v ∧ n ≤ 14 ∧ WI w bs (K + 16) H B n v zs W'
set_option maxHeartbeats 2000000 in
theorem Lw.weights (h : Lw w bs K H W) (hK : K ≤ 1000000000) :
    Calls Try.prog 26 #[.pointer (some ⟨bs, 0, none⟩)] W (WPost w bs K H W.heap.size) := by
  obtain ⟨i0, hi0, hz0, hz1, hz2⟩ := info_parts infoInt
  have hBs := h.lt
  have hHn := Lib.hid (fun g (hg : W.heap.size ≤ g) => h.fin.none_ hg)
  go_enter Try.func26, Try.ntmps26
  go_wp2_with fail
  refine (h.next' 14 (by omega) (by omega) (by omega)).mono ?_
  rintro e W1 ⟨n, rfl, n0, n1, L, g, hz⟩
  obtain ⟨n, rfl⟩ := Int.eq_ofNat_of_zero_le n0
  have hB : W.heap.size ≤ W1.heap.size := by omega
  have J0 : WI w bs (K + 1) H W.heap.size 0 (.slice none 0 0) [] W1 := ⟨rfl, (fun z hz => by cases hz), IRow.nil _ _, L, hB, hBs, hHn.out⟩
  clear hz L g h hHn hB
  go_wp2_with fail
  go_loopw [3, 6] (fun v t wr => ∃ (i : Nat) (zs : List Int), i ≤ n ∧ t = .int .i64 i ∧ WI w bs (K + 1 + i) H W.heap.size i v zs wr) (fun _ t _ => n - (intOf t).toNat)
  case atStart => exact ⟨0, [], by omega, rfl, J0⟩
  case round =>
    obtain ⟨i, zs, hi, rfl, J⟩ := hrel
    clear J0
    by_cases hlt : i < n
    · have L := J.2.2.2.1
      have L1 := L.alloc (.cells #[.int .i64 0, .int .i64 1, .int .i64 1, .int .i64 2, .int .i64 3, .int .i64 262144, .int .i64 1000000] 3)
      have hI : Ints (wr.alloc (.cells #[.int .i64 0, .int .i64 1, .int .i64 1, .int .i64 2, .int .i64 3, .int .i64 262144, .int .i64 1000000] 3)) (some ⟨wr.heap.size, 0, none⟩) [0, 1, 1, 2, 3, 262144, 1000000] := Ints.of_row (heap_at rfl) rfl
      have hne := L.lt
      go_wp2_with fail
      refine (L1.pick _ _ [0, 1, 1, 2, 3, 262144, 1000000] hI (fun b off e => by injection e with e; injection e with e1 e2; omega) (by simp) (by simp) (by omega)).mono ?_
      rintro e W2 ⟨z, rfl, hz, L2, g2, -⟩
      have hzb : -1 ≤ z ∧ z ≤ 1000001 := by simp at hz; omega
      have J2 := WI.pick J L2 (grown_alloc_left g2)
      clear L1 hI L J g2 hz L2
      have HR : Hid (IRow W2 W.heap.size u3 zs) := J2.2.2.1
      have hsz := J2.2.2.2.2.1
      have hll := J2.1
      have hln : zs.length ≤ 14 := by omega
      have J2 := Lib.hid J2
      clear hll
      go_wp2_with (at_builtin; refine wpList_append1 rfl _ _ 22 rfl W.heap.size 3 i0 (.int .i64 0) 1 8 Try.underlying22 hi0 hz0 hz1 hz2 rfl (by decide) _ _ _ rfl HR.out.own #[.int .i64 z] 3 rfl rfl (by simp [Value.oneCell']) (by omega) (by omega) hsz ?_; intro v1 w1 o1 g1 b1)
      have J3 := WI.app J2.out hzb o1 g1
      clear o1 g1 b1 HR J2 hzb
      go_wp2_with fail
      go_roundw
      case rel => exact ⟨i + 1, zs ++ [z], by omega, by go_num, J3⟩
      case measure => simp [intOf]; omega
    · have L := J.2.2.2.1
      go_wp2_with fail
      refine (L.flip 15 (by omega) (by omega)).mono ?_
      rintro e W2 ⟨t, rfl, L2, g2, -⟩
      have J2 := WI.pick J L2 g2
      clear L J g2
      cases t with
      | false =>
        go_wp2_with fail
        go_ret
        exact ⟨u3, i, zs, rfl, by omega, J2.1, J2.2.1, J2.2.2.1, J2.2.2.2.1.more (by omega), J2.2.2.2.2⟩
      | true =>
        have L1 := L2.alloc (.cells #[.int .i64 (-1), .int .i64 1000001] 3)
        have hI : Ints (W2.alloc (.cells #[.int .i64 (-1), .int .i64 1000001] 3)) (some ⟨W2.heap.size, 0, none⟩) [-1, 1000001] := Ints.of_row (heap_at rfl) rfl
        have hne := L2.lt
        go_wp2_with fail
        refine (L1.pick _ _ [-1, 1000001] hI (fun b off e => by injection e with e; injection e with e1 e2; omega) (by simp) (by simp) (by omega)).mono ?_
        rintro e W3 ⟨z, rfl, hz, L3, g3, -⟩
        have hzb : -1 ≤ z ∧ z ≤ 1000001 := by simp at hz; omega
        have J3 := WI.pick J2 L3 (grown_alloc_left g3)
        clear L1 hI L2 J2 g3 hz L3
        have HR : Hid (IRow W3 W.heap.size u3 zs) := J3.2.2.1
        have hsz := J3.2.2.2.2.1
        have hll := J3.1
        have hln : zs.length ≤ 14 := by omega
        have J3 := Lib.hid J3
        clear hll
        go_wp2_with (at_builtin; refine wpList_append1 rfl _ _ 22 rfl W.heap.size 3 i0 (.int .i64 0) 1 8 Try.underlying22 hi0 hz0 hz1 hz2 rfl (by decide) _ _ _ rfl HR.out.own #[.int .i64 z] 3 rfl rfl (by simp [Value.oneCell']) (by omega) (by omega) hsz ?_; intro v1 w1 o1 g1 b1)
        have J4 := WI.app J3.out hzb o1 g1
        clear o1 g1 b1 HR J3 hzb
        go_wp2_with fail
        go_ret
        exact ⟨v1, i + 1, zs ++ [z], rfl, by omega, J4.1, J4.2.1, J4.2.2.1, J4.2.2.2.1.more (by omega), J4.2.2.2.2⟩
end
end Go.Proofs.Ytadfoaopamlnpaa
