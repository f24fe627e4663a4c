/- The law TestsTurn returns true, whatever the numbers of its list. -/
import Derived.Test.YtadfoaopamlnpaaSigns
namespace Go.Proofs.Ytadfoaopamlnpaa
set_option linter.unusedVariables false
open Go.RowKit Hb

/-- A fraction's two numbers. -/
def frN (F A : Nat) : Int := ((F / Nat.gcd F A : Nat) : Int)
def frD (F A : Nat) : Int := ((A / Nat.gcd F A : Nat) : Int)
theorem frac_eq (F A : Nat) : frac F A = .agg #[.int .i64 (frN F A), .int .i64 (frD F A)] := rfl
theorem frN_pos {F A : Nat} (h : 0 < F) : 0 < frN F A := by
  unfold frN
  have h1 : Nat.gcd F A ∣ F := Nat.gcd_dvd_left _ _
  have h2 : 0 < Nat.gcd F A := Nat.gcd_pos_of_pos_left _ h
  have h3 : 0 < F / Nat.gcd F A := Nat.div_pos (Nat.le_of_dvd h h1) h2
  omega
theorem frN_le {F A : Nat} (h : F ≤ A) : frN F A ≤ frD F A := by
  unfold frN frD
  have : F / Nat.gcd F A ≤ A / Nat.gcd F A := Nat.div_le_div_right h
  omega
theorem fr_one {F A : Nat} (h : F = A) (h0 : 0 < A) : frN F A = 1 ∧ frD F A = 1 := by
  subst h
  unfold frN frD
  rw [Nat.gcd_self, Nat.div_self h0]
  exact ⟨rfl, rfl⟩

theorem frz2 {H : Frz} {W : World} {n : Nat} {T : TypeId} {x y : Value} (h : H.In W) (e : H n = some (.cells #[x, y] T (0, 0))) :
    W.cell? ⟨n, 0, none⟩ = some x ∧ W.cell? ⟨n, 1, none⟩ = some y := by
  have := h _ _ e
  exact ⟨by simp [World.cell?, this], by simp [World.cell?, this]⟩
theorem zeros6 {W : World} {n : Nat} {T : TypeId} {x : Value} (h : W.heap[n]? = some (.cells #[x, x, x, x, x, x] T (0, 0))) (i : Nat) (hi : i < 6) :
    W.cell? ⟨n, i, none⟩ = some x := by
  simp only [World.cell?, h]
  match i, hi with
  | 0, _ => rfl
  | 1, _ => rfl
  | 2, _ => rfl
  | 3, _ => rfl
  | 4, _ => rfl
  | 5, _ => rfl

set_option maxHeartbeats 2000000 in
theorem testsTurn_walk (a0 : Option Addr) (len0 cap0 : Nat) (z0 : List Int) (w : World) (w0 : IsRow .i64 w a0 len0 cap0 z0) :
    Calls Try.prog 3 #[.slice a0 len0 cap0] w fun e w' => e = .returned (.bool true) ∧ Below w.heap.size w w' := by
  have L := Lw.new w0
  go_enter Try.func3, Try.ntmps3
  go_wp2_with fail
  refine (L.next 15 (by omega) (by omega)).mono ?_
  clear L
  rintro e W1 ⟨a, rfl, a1, a2, -, L, -, -⟩
  replace a2 := a2 (by omega)
  go_wp2_with fail
  refine (L.next 15 (by omega) (by omega)).mono ?_
  clear L
  rintro e W2 ⟨b, rfl, b1, b2, -, L, -, -⟩
  replace b2 := b2 (by omega)
  go_wp2_with fail
  refine (L.next 15 (by omega) (by omega)).mono ?_
  clear L
  rintro e W3 ⟨c, rfl, c1, c2, -, L, -, -⟩
  replace c2 := c2 (by omega)
  go_wp2_with fail
  refine (L.next 15 (by omega) (by omega)).mono ?_
  clear L
  rintro e W4 ⟨d, rfl, d1, d2, -, L, -, -⟩
  replace d2 := d2 (by omega)
  obtain ⟨a, rfl⟩ := Int.eq_ofNat_of_zero_le a1
  obtain ⟨b, rfl⟩ := Int.eq_ofNat_of_zero_le b1
  obtain ⟨c, rfl⟩ := Int.eq_ofNat_of_zero_le c1
  obtain ⟨d, rfl⟩ := Int.eq_ofNat_of_zero_le d1
  have N1 := frN_pos (A := exAll a b c d) (exFew_pos a b c d)
  have N2 := frN_le (exFew_le a b c d)
  have N3 := fr_one (exFew_equal a b) (by have h1 := exFew_pos a b a b; have h2 := exFew_le a b a b; omega)
  have e1 := exFew_swap a b c d
  have e2 := exAll_swap a b c d
  have e3 := exFew_turn a b c d
  have e4 := exAll_turn a b c d
  generalize hF : exFew a b c d = F at *
  generalize hA : exAll a b c d = A at *
  have HF := Lib.hid hF
  have HA := Lib.hid hA
  have E1 := Lib.hid e1
  have E2 := Lib.hid e2
  have E3 := Lib.hid e3
  have E4 := Lib.hid e4
  have G1 := Lib.hid N3.1
  have G2 := Lib.hid N3.2
  clear e1 e2 e3 e4 hF hA N3
  generalize hN : frN F A = N at *
  generalize hD : frD F A = D at *
  have HN := Lib.hid hN
  have HD := Lib.hid hD
  clear hN hD
  go_wp2_with fail
  refine (exact_any a b c d _ (by omega) (by omega) (by omega) (by omega)).mono ?_
  rintro e W5 ⟨rfl, hb⟩
  replace L := L.call hb
  clear hb
  rw [HF.out, HA.out, frac_eq, HN.out, HD.out]
  go_wp2_with fail
  obtain ⟨H1, l1, k1, L⟩ := L.put (.cells #[.int .i64 N, .int .i64 D] 28)
  refine (exact_any c d a b _ (by omega) (by omega) (by omega) (by omega)).mono ?_
  rintro e W6 ⟨rfl, hb⟩
  replace L := L.call hb
  clear hb
  rw [E1.out, E2.out, frac_eq, HN.out, HD.out]
  go_wp2_with fail
  obtain ⟨H2, l2, k2, L⟩ := L.put (.cells #[.int .i64 N, .int .i64 D] 28)
  refine (exact_any b a d c _ (by omega) (by omega) (by omega) (by omega)).mono ?_
  rintro e W7 ⟨rfl, hb⟩
  replace L := L.call hb
  clear hb
  rw [E3.out, E4.out, frac_eq, HN.out, HD.out]
  go_wp2_with fail
  obtain ⟨H3, l3, k3, L⟩ := L.put (.cells #[.int .i64 N, .int .i64 D] 28)
  refine (exact_any a b a b _ (by omega) (by omega) (by omega) (by omega)).mono ?_
  rintro e W8 ⟨rfl, hb⟩
  replace L := L.call hb
  clear hb
  rw [frac_eq, G1.out, G2.out]
  go_wp2_with fail
  obtain ⟨H4, l4, k4, L⟩ := L.put (.cells #[.int .i64 1, .int .i64 1] 28)
  refine (L.next 61 (by omega) (by omega)).mono ?_
  clear L
  rintro e W9 ⟨n, rfl, n1, n2, -, L, -, -⟩
  replace n2 := n2 (by omega)
  go_wp2_with fail
  refine (L.next (n + 1) (by omega) (by omega)).mono ?_
  clear L
  rintro e W10 ⟨k, rfl, m1, m2, -, L, -, -⟩
  replace m2 := m2 (by omega)
  obtain ⟨n, rfl⟩ := Int.eq_ofNat_of_zero_le n1
  obtain ⟨k, rfl⟩ := Int.eq_ofNat_of_zero_le m1
  have P1 := frN_pos (A := 2 ^ n) (sgFew_pos (n := n) (k := k) (by omega))
  have P2 := frN_le (sgFew_le n k)
  have S1 := Lib.hid (sgFew_symm (n := n) (k := k) (by omega))
  generalize hN : frN (sgFew n k) (2 ^ n) = P at *
  generalize hD : frD (sgFew n k) (2 ^ n) = Q at *
  have HP := Lib.hid hN
  have HQ := Lib.hid hD
  clear hN hD
  go_wp2_with fail
  refine (signs_any n k _ (by omega) (by omega)).mono ?_
  rintro e W11 ⟨rfl, hb⟩
  replace L := L.call hb
  clear hb
  rw [frac_eq, HP.out, HQ.out]
  go_wp2_with fail
  obtain ⟨H5, l5, k5, L⟩ := L.put (.cells #[.int .i64 P, .int .i64 Q] 28)
  rw [show ((n : Int) - (k : Int)) = ((n - k : Nat) : Int) from by omega]
  refine (signs_any n (n - k) _ (by omega) (by omega)).mono ?_
  rintro e W12 ⟨rfl, hb⟩
  replace L := L.call hb
  clear hb
  rw [S1.out, frac_eq, HP.out, HQ.out]
  go_wp2_with fail
  obtain ⟨H6, l6, k6, L⟩ := L.put (.cells #[.int .i64 P, .int .i64 Q] 28)
  obtain ⟨H7, l7, k7, L⟩ := L.put (.cells #[.int .i64 0, .int .i64 0, .int .i64 0, .int .i64 0, .int .i64 0, .int .i64 0] 29)
  generalize hW : World.alloc (World.alloc W12 _) _ = W at *
  clear hW
  have hz := Lib.hid (zeros6 (L.fin _ _ k7))
  simp only [World.size_alloc] at hz
  go_loop [95] (fun t => ∃ i : Nat, i ≤ 6 ∧ t = .int .i64 i) (fun t => 6 - (intOf t).toNat)
  case atStart => exact ⟨0, by omega, rfl⟩
  case round =>
    obtain ⟨i, hi, rfl⟩ := hrel
    by_cases hlt : i < 6
    · have hc := hz.out i hlt
      go_wp2_with fail
      go_round
      case rel => exact ⟨i + 1, by omega, by go_num⟩
      case measure => simp [intOf]; omega
    · go_wp2_with fail
      refine (measures_any _).mono ?_
      rintro e W13 ⟨rfl, hb⟩
      replace L := L.call hb
      clear hb hz
      obtain ⟨x0, x1⟩ := frz2 L.fin (l7 _ _ (l6 _ _ (l5 _ _ (l4 _ _ (l3 _ _ (l2 _ _ k1))))))
      obtain ⟨y0, y1⟩ := frz2 L.fin (l7 _ _ (l6 _ _ (l5 _ _ (l4 _ _ (l3 _ _ k2)))))
      obtain ⟨z0, z1⟩ := frz2 L.fin (l7 _ _ (l6 _ _ (l5 _ _ (l4 _ _ k3))))
      obtain ⟨v0, v1⟩ := frz2 L.fin (l7 _ _ (l6 _ _ (l5 _ _ k4)))
      obtain ⟨p0, p1⟩ := frz2 L.fin (l7 _ _ (l6 _ _ k5))
      obtain ⟨q0, q1⟩ := frz2 L.fin (l7 _ _ k6)
      clear l1 l2 l3 l4 l5 l6 l7 k1 k2 k3 k4 k5 k6 k7
      go_wp2_with fail
      go_ret
      exact ⟨rfl, L.bel⟩
end Go.Proofs.Ytadfoaopamlnpaa
