/- The law CodesCount returns true, whatever the numbers of its list. -/
import Derived.Test.YtadfoaopamlnpaaBatch2
namespace Go.Proofs.Ytadfoaopamlnpaa
set_option linter.unusedVariables false
open Go.RowKit

theorem cnt_of {z : Int} (h : z ∈ [(3 : Int), 4, 11]) : ∃ c all N : Nat, z = (c : Int) ∧ Hb.Cnt c all N := by
  simp at h
  rcases h with h | h | h
  · exact ⟨3, _, _, h, Hb.cnt3⟩
  · exact ⟨4, _, _, h, Hb.cnt4⟩
  · exact ⟨11, _, _, h, Hb.cnt11⟩

/-- Codes of different numbers are different. -/
theorem code_ne {c all N key n n' : Nat} (C : Hb.Cnt c all N) (hk : key < all) (hn : n < all) (hn' : n' < all) {x x' : ByteArray} (h : IsCode c all key n x) (h' : IsCode c all key n' x') (hne : n ≠ n') : x ≠ x' := by
  intro e
  apply hne
  have hp : 0 < all := by have := C.big; omega
  obtain ⟨_, _, k, hl⟩ := code_facts C h
  obtain ⟨_, _, k', hl'⟩ := code_facts C h'
  rw [e, hl'] at hl
  have h1 := List.append_inj_left' hl (by simp)
  injection h1 with _ h2
  have e31 : 31 ^ c = all := C.pow
  have h3 := Hb.low_inj c _ _ (by rw [e31]; exact Hb.bv_lt hp) (by rw [e31]; exact Hb.bv_lt hp) h2
  exact (Hb.bv_inj hp hk C.one hn hn' h3.symm)

theorem own_form {w : World} {B n : Nat} {v : Value} {xs : List ByteArray} (h : w.ownsRow B 9 1 v n (xs.map Value.string)) :
    ∃ (A : Option Addr) (cap : Nat), v = .slice A n cap ∧ (0 < n → ∃ g, A = some ⟨g, 0, none⟩ ∧ n ≤ cap ∧ ∀ j x, xs[j]? = some x → w.cell? ⟨g, j, none⟩ = some (.string x)) := by
  have hc := fun g => h.cells (g := g)
  rcases h.2 with ⟨rfl, rfl⟩ | ⟨g, cap, cur, rfl, _, hh, hle, _⟩
  · exact ⟨none, 0, rfl, fun h0 => by omega⟩
  · refine ⟨some ⟨g, 0, none⟩, cap, rfl, fun _ => ⟨g, rfl, hle, fun j x hj => ?_⟩⟩
    have := hc g rfl j (.string x) (by rw [List.getElem?_map, hj]; rfl)
    rw [Addr.add_lit, Nat.zero_add] at this
    exact this

set_option maxHeartbeats 2000000 in
set_option maxRecDepth 100000 in
theorem codesCount_walk (a0 : Option Addr) (len0 cap0 : Nat) (z0 : List Int) (w : World) (w0 : IsRow .i64 w a0 len0 cap0 z0) :
    Calls Try.prog 5 #[.slice a0 len0 cap0] w fun e w' => e = .returned (.bool true) ∧ Below w.heap.size w w' := by
  have L := Lw.new w0
  go_enter Try.func5, Try.ntmps5
  go_wp2_with fail
  have L1 := L.alloc (.cells #[.int .i64 3, .int .i64 4, .int .i64 11] 3)
  have hI : Ints ((w.alloc (.cells #[.slice a0 len0 cap0, .int .i64 0] 25)).alloc (.cells #[.int .i64 3, .int .i64 4, .int .i64 11] 3)) (some ⟨w.heap.size + 1, 0, none⟩) [3, 4, 11] :=
    Ints.of_row (heap_at (by simp)) rfl
  refine (L1.pick _ _ [3, 4, 11] hI (fun b off e => by injection e with e; injection e with e1 e2; omega) (by simp) (by simp) (by omega)).mono ?_
  clear L L1 hI
  rintro e W1 ⟨z, rfl, hz, L, -, -⟩
  obtain ⟨c, all, N, rfl, C⟩ := cnt_of hz
  have c4 := C.big
  have c3 := C.sm
  have c2 := C.hi
  have c1 := C.lo
  clear hz
  go_wp2_with fail
  refine (L.next' 29791 (by omega) (by omega) (by omega)).mono ?_
  clear L
  rintro e W2 ⟨key, rfl, k0, k1, L, -, -⟩
  obtain ⟨key, rfl⟩ := Int.eq_ofNat_of_zero_le k0
  go_wp2_with fail
  refine (L.next' 29000 (by omega) (by omega) (by omega)).mono ?_
  clear L
  rintro e W3 ⟨fr, rfl, f0, f1, L, -, -⟩
  obtain ⟨fr, rfl⟩ := Int.eq_ofNat_of_zero_le f0
  go_wp2_with fail
  refine (L.next' 12 (by omega) (by omega) (by omega)).mono ?_
  clear L
  rintro e W4 ⟨many, rfl, m0, m1, L, -, -⟩
  obtain ⟨many, rfl⟩ := Int.eq_ofNat_of_zero_le m0
  go_wp2_with fail
  refine (batch_any C key fr many _ (by omega) (by omega) (by omega)).mono ?_
  rintro e W5 ⟨v, xs, rfl, hlen, hco, hown, hb⟩
  have L5 := L.call hb
  have HCO := Lib.hid hco
  obtain ⟨A, cap, hv, hA⟩ := own_form hown
  rw [hv]
  have HA := Lib.hid hA
  have HLEN := Lib.hid hlen
  clear hown hb L hco hv hA hlen
  go_wp2_with fail
  go_loopw [36] (fun t wr => ∃ i q : Nat, i ≤ many ∧ t = .int .i64 i ∧ wr = W5.drewN q) (fun t _ => many - (intOf t).toNat)
  case atStart => exact ⟨0, 0, by omega, rfl, rfl⟩
  case round =>
    obtain ⟨i, q, hi, rfl, rfl⟩ := hrel
    by_cases hlt : i < many
    · obtain ⟨g, rfl, hcap, hcl⟩ := HA.out (by omega)
      have hix : i < xs.length := by rw [HLEN.out]; exact hlt
      have hc := hcl i xs[i] (List.getElem?_eq_getElem hix)
      have hcode := HCO.out i hix
      have HCL := Lib.hid hcl
      have hdif : Hid (Lib.containsS (xs.take i) xs[i] = false) := by
        show _ = false
        cases e : Lib.containsS (xs.take i) xs[i] with
        | false => rfl
        | true =>
          rw [Lib.containsS_iff] at e
          obtain ⟨j, hj, hje⟩ := List.mem_take_iff_getElem.1 e
          have hj2 : j < i := by omega
          have hjl : j < xs.length := by omega
          exact absurd hje (code_ne C (by omega) (by omega) (by omega) (HCO.out j hjl) hcode (by omega))
      obtain ⟨cf1, cf2, -⟩ := code_facts C hcode
      have CE := Lib.hid cf2
      have hsz : xs[i].size ≤ 1000 := by omega
      have HCODE := Lib.hid hcode
      generalize hx : xs[i] = x at hc hdif CE hsz HCODE
      clear hx hcode cf1 cf2 hcl
      go_wp2_with fail
      refine (number_any C key (fr + i) x _ (by omega) (by omega) HCODE.out).mono ?_
      rintro e w2 ⟨rfl, q1, rfl⟩
      rw [show ((fr + i : Nat) : Int) = (fr : Int) + i from by omega]
      go_wp2_with fail
      refine (Try.slices_Contains_string g 0 i cap xs x _ (by omega) (by omega) (fun j hj => ?_)).mono ?_
      · rw [Nat.zero_add]
        have := HCL.out j xs[j] (List.getElem?_eq_getElem hj)
        rw [List.getD_eq_getElem?_getD, List.getElem?_eq_getElem hj]
        exact this
      · rintro e w2 ⟨rfl, rfl⟩
        rw [hdif.out]
        go_wp2_with fail
        refine (checkCode_any x _ hsz).mono ?_
        rintro e w2 ⟨rfl, rfl⟩
        rw [CE.out]
        go_wp2_with fail
        go_roundw
        case rel => exact ⟨i + 1, q + q1, by omega, by go_num, rfl⟩
        case measure => simp [intOf]; omega
    · go_wp2_with fail
      refine (offers_any _).mono ?_
      rintro e w' ⟨rfl, rfl⟩
      go_wp2_with fail
      go_ret
      exact ⟨rfl, (L5.drewN q).bel⟩
end Go.Proofs.Ytadfoaopamlnpaa
