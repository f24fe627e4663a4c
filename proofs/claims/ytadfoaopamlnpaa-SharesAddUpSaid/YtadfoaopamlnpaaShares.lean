/- Shares and Divide; the law SharesAddUp returns true, whatever its numbers. -/
import Derived.Test.YtadfoaopamlnpaaShare
import Derived.Test.YtadfoaopamlnpaaDivide
namespace Go.Proofs.Ytadfoaopamlnpaa
set_option linter.unusedVariables false
open Go.RowKit

theorem ret_tup {v : Value} {k : IntKind} {a b : Int} (h : a = b) : Ending.returned (.tuple #[v, .int k a]) = .returned (.tuple #[v, .int k b]) := by rw [h]
theorem Ints.below {w w' : World} {A : Option Addr} {zs : List Int} (h : Ints w A zs) (hb : Below w.heap.size w w') : Ints w' A zs := fun i hi => by
  obtain ⟨b, off, e, hc⟩ := h i hi
  exact ⟨b, off, e, (hb.cell (p := ⟨b, off + i, none⟩) (World.block_lt_of_cell? w _ hc)).trans hc⟩
theorem ci_of {zs : List Int} (h : ∀ z ∈ zs, 0 ≤ z) : ∃ ws : List Nat, zs = ci ws := by
  refine ⟨zs.map Int.toNat, ?_⟩
  unfold ci
  rw [List.map_map]
  conv => lhs; rw [← List.map_id zs]
  apply List.map_congr_left
  intro z hz
  have := h z hz
  simp
  omega

set_option maxHeartbeats 1000000 in
theorem Divide_bad (c : Int) (A : Option Addr) (cap : Nat) (zs : List Int) (w : World) (hA : Ints w A zs) (hl : zs.length ≤ 1000000) (hc0 : 0 ≤ c) (hc : c ≤ 1000000000000) (hb : cw zs ≠ 0) :
    Calls Try.prog 29 #[.int .i64 c, .slice A zs.length cap] w fun e w' => e = .returned (.tuple #[.slice none 0 0, .int .i64 (cw zs)]) ∧ w = w' := by
  have hb' : (cw zs != 0) = true := by simpa using hb
  have HA := Lib.hid hA
  clear hA hb
  go_enter Try.func29, Try.ntmps29
  go_wp2_with fail
  refine (within_yes _ _ _ _ hc0 hc).mono ?_
  rintro e w' ⟨rfl, rfl⟩
  go_wp2_with fail
  refine (checkWeights_any A cap zs _ HA.out hl).mono ?_
  rintro e w' ⟨rfl, rfl⟩
  generalize hq : cw zs = q at hb'
  have HQ := Lib.hid hq
  clear hq
  go_wp2_with fail
  go_ret2
  exact ⟨ret_tup HQ.out.symm, rfl⟩

def D2Post (c n : Nat) (w : World) (e : Ending) (w' : World) : Prop := ∃ (v : Value) (ps : List Nat), e = .returned (.tuple #[v, .int .i64 0]) ∧ ps.length = n ∧ ps.sum = c ∧ IRow w' w.heap.size v (ci ps) ∧ Below w.heap.size w w'
set_option maxHeartbeats 1000000 in
theorem Divide_ok (c : Nat) (ws : List Nat) (A : Option Addr) (cap : Nat) (w : World) (hA : Ints w A (ci ws)) (hc : c ≤ 1000000000000) (hk : cw (ci ws) = 0) :
    Calls Try.prog 29 #[.int .i64 c, .slice A ws.length cap] w (D2Post c ws.length w) := by
  obtain ⟨k1, k2, k3⟩ := cw_ok hk
  have HA := Lib.hid hA
  have HK := Lib.hid hk
  have HK2 := Lib.hid k2
  have HK3 := Lib.hid k3
  have hlen := ci_len ws
  rw [hlen] at k1
  have HL := Lib.hid hlen
  clear hA hk k2 k3 hlen
  go_enter Try.func29, Try.ntmps29
  go_wp2_with fail
  refine (within_yes _ _ _ _ (by omega) (by omega)).mono ?_
  rintro e w' ⟨rfl, rfl⟩
  go_wp2_with fail
  rw [← HL.out]
  refine (checkWeights_any A cap (ci ws) _ HA.out (by rw [HL.out]; omega)).mono ?_
  rintro e w' ⟨rfl, rfl⟩
  rw [HK.out, HL.out]
  go_wp2_with fail
  refine (divide_any c ws A cap _ HA.out (by omega) ?_ ?_ hc).mono ?_
  · intro z hz
    have := HK2.out (z : Int) (List.mem_map.2 ⟨z, hz, rfl⟩)
    omega
  · have := HK3.out
    rw [ci_sum] at this
    omega
  rintro e w1 ⟨v, ps, rfl, p1, p2, p3, p4⟩
  have P := Lib.hid (show ps.length = ws.length ∧ ps.sum = c ∧ IRow w1 w.heap.size v (ci ps) ∧ Below w.heap.size w w1 from ⟨p1, p2, p3, p4⟩)
  clear p1 p2 p3 p4
  go_wp2_with fail
  go_ret2
  exact ⟨v, ps, rfl, P.out⟩

theorem infoFrac : (Try.prog.info? 28).map (fun i => (i.zero, i.size, i.bytes)) = some (some (.agg #[.int .i64 0, .int .i64 0]), 2, 16) := by kernel_rfl

/-- The cells of shares. -/
def shc (S : Nat) (ws : List Nat) : List Value := ws.flatMap fun z => [.int .i64 (z / Nat.gcd z S : Nat), .int .i64 (S / Nat.gcd z S : Nat)]
theorem shc_snoc (S : Nat) (ws : List Nat) (z : Nat) : shc S (ws ++ [z]) = shc S ws ++ [.int .i64 (z / Nat.gcd z S : Nat), .int .i64 (S / Nat.gcd z S : Nat)] := by simp [shc]
theorem shc_len (S : Nat) (ws : List Nat) : (shc S ws).length = ws.length * 2 := by
  induction ws with
  | nil => rfl
  | cons z ws ih => simp only [shc, List.flatMap_cons, List.length_append] at ih ⊢; rw [ih]; simp; omega
theorem shc_get (S : Nat) (ws : List Nat) (i : Nat) (h : i < ws.length) : (shc S ws)[i * 2]? = some (.int .i64 (ws[i] / Nat.gcd ws[i] S : Nat)) ∧ (shc S ws)[i * 2 + 1]? = some (.int .i64 (S / Nat.gcd ws[i] S : Nat)) := by
  induction ws generalizing i with
  | nil => simp at h
  | cons z ws ih =>
    cases i with
    | zero => exact ⟨rfl, rfl⟩
    | succ i =>
      have := ih i (by simpa using h)
      simp only [shc, List.flatMap_cons, List.getElem_cons_succ] at this ⊢
      rw [show (i + 1) * 2 = i * 2 + 2 from by omega]
      exact this

def ShPost (ws : List Nat) (w : World) (e : Ending) (w' : World) : Prop := ∃ v : Value, e = .returned (.tuple #[v, .int .i64 0]) ∧ w'.ownsRow w.heap.size 28 2 v ws.length (shc ws.sum ws) ∧ Below w.heap.size w w'
set_option maxHeartbeats 1000000 in
theorem Shares_bad (A : Option Addr) (cap : Nat) (zs : List Int) (w : World) (hA : Ints w A zs) (hl : zs.length ≤ 1000000) (hb : cw zs ≠ 0) :
    Calls Try.prog 28 #[.slice A zs.length cap] w fun e w' => e = .returned (.tuple #[.slice none 0 0, .int .i64 (cw zs)]) ∧ w = w' := by
  have hb' : (cw zs != 0) = true := by simpa using hb
  have HA := Lib.hid hA
  clear hA hb
  go_enter Try.func28, Try.ntmps28
  go_wp2_with fail
  refine (checkWeights_any A cap zs _ HA.out hl).mono ?_
  rintro e w' ⟨rfl, rfl⟩
  generalize hq : cw zs = q at hb'
  have HQ := Lib.hid hq
  clear hq
  go_wp2_with fail
  go_ret2
  exact ⟨ret_tup HQ.out.symm, rfl⟩

set_option maxHeartbeats 1000000 in
theorem Shares_ok (ws : List Nat) (A : Option Addr) (cap : Nat) (w : World) (hA : Ints w A (ci ws)) (hk : cw (ci ws) = 0) :
    Calls Try.prog 28 #[.slice A ws.length cap] w (ShPost ws w) := by
  obtain ⟨k1, k2, k3⟩ := cw_ok hk
  obtain ⟨i0, hi0, hz0, hz1, hz2⟩ := info_parts infoFrac
  have HA := Lib.hid hA
  have HK := Lib.hid hk
  have HK2 := Lib.hid k2
  have hlen := ci_len ws
  rw [hlen] at k1
  have HL := Lib.hid hlen
  have HS := Lib.hid (ci_sum ws)
  have hS0 : 0 < ws.sum := by rw [ci_sum] at k3; omega
  have hS1 : ws.sum ≤ 12000000 := by
    have := Hb.sum_le (ws := ws) (b := 1000000) (fun z hz => by have := HK2.out (z : Int) (List.mem_map.2 ⟨z, hz, rfl⟩); omega)
    have : ws.length * 1000000 ≤ 12 * 1000000 := Nat.mul_le_mul_right _ k1
    omega
  clear hA hk k2 k3 hlen
  go_enter Try.func28, Try.ntmps28
  go_wp2_with fail
  rw [← HL.out]
  refine (checkWeights_any A cap (ci ws) _ HA.out (by rw [HL.out]; omega)).mono ?_
  rintro e w' ⟨rfl, rfl⟩
  rw [HK.out]
  go_wp2_with fail
  refine (sumOf_any A cap (ci ws) _ HA.out (fun z hz => by have := HK2.out z hz; omega) (by rw [HL.out]; omega)).mono ?_
  rintro e w' ⟨rfl, rfl⟩
  rw [HS.out, HL.out]
  generalize hSS : ws.sum = S at hS0 hS1
  have HSS := Lib.hid hSS
  clear hSS
  go_wp2_with fail
  go_loopw [6, 18] (fun v t wr => ∃ i : Nat, i ≤ ws.length ∧ t = .int .i64 i ∧ Hid (wr.ownsRow w.heap.size 28 2 v i (shc S (ws.take i))) ∧ Hid (Below w.heap.size w wr)) (fun _ t _ => ws.length - (intOf t).toNat)
  case atStart => exact ⟨0, Nat.zero_le _, rfl, World.ownsRow_nil _ _ _ _, Below.refl _ _⟩
  case round =>
    obtain ⟨i, hi, rfl, J1, J2⟩ := hrel
    by_cases hlt : i < ws.length
    · obtain ⟨b, off, rfl, hc⟩ := HA.out i (by rw [HL.out]; exact hlt)
      rw [ci_get] at hc
      have hbl : b < w.heap.size := World.block_lt_of_cell? w _ hc
      have hc2 := (J2.out.cell (p := ⟨b, off + i, none⟩) hbl).trans hc
      have hz := HK2.out _ (List.mem_map.2 ⟨ws[i], List.getElem_mem hlt, rfl⟩)
      have hts := Lib.hid (List.take_succ_eq_append_getElem hlt)
      generalize ws[i] = z at hc2 hz hts
      clear hc
      go_wp2_with fail
      refine (reduce_any z S _ (by omega) (by omega) hS0).mono ?_
      rintro e w1 ⟨rfl, hb1⟩
      have J1' := Lib.hid ((J1.out.kept (row := none) ⟨hb1.os, hb1.tape, hb1.output, hb1.size, fun k hk _ => hb1.block k hk⟩ (by cases e : u6.ownBlock <;> simp)))
      have J2' := Lib.hid (J2.out.trans (hb1.mono J2.out.size))
      have hsz : w.heap.size ≤ w1.heap.size := J2'.out.size
      clear J1 J2 hb1
      unfold frac
      have hfr := Lib.hid (shc_snoc S (ws.take i) z)
      generalize z / Nat.gcd z S = fn at hfr
      generalize S / Nat.gcd z S = fd at hfr
      go_wp2_with (at_builtin; refine wpList_append1 rfl _ _ 57 rfl w.heap.size 28 i0 (.agg #[.int .i64 0, .int .i64 0]) 2 16 Try.underlying57 hi0 hz0 hz1 hz2 rfl (by decide) _ _ _ rfl J1'.out #[.int .i64 fn, .int .i64 fd] 28 rfl rfl (by simp [Value.oneCell']) (by omega) (by omega) hsz ?_; intro v1 w2 o1 g1 b1)
      have O1 := Lib.hid o1
      have J3 := Lib.hid (J2'.out.trans b1)
      clear o1 g1 b1 J1' J2'
      go_wp2_with fail
      go_roundw
      case rel => exact ⟨i + 1, by omega, by go_num, by rw [hts.out, hfr.out]; exact O1, J3⟩
      case measure => simp [intOf]; omega
    · go_wp2_with fail
      go_ret2
      refine ⟨_, rfl, ?_, J2.out⟩
      have := J1.out
      obtain rfl : i = ws.length := by omega
      rw [List.take_length] at this
      rw [HSS.out]
      exact this
end Go.Proofs.Ytadfoaopamlnpaa
