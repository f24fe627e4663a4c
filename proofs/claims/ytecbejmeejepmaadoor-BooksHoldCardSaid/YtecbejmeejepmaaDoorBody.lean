/- What a stream makes: a changed text, the body of a code: some text that is not long. -/
import Derived.Test.YtecbejmeejepmaaDoorPick
namespace Go.Proofs.YtecbejmeejepmaaDoor
set_option linter.unusedVariables false
open Go.RowKit

section
variable {w W : World} {bs K : Nat} {H : Frz}

theorem grown_trans3 {a b c : World} {row : Option Nat} (h : a.grownBy b row) (k : b.grownBy c row) : a.grownBy c row :=
  ⟨k.os.trans h.os, k.tape.trans h.tape, k.output.trans h.output, Nat.le_trans h.size k.size, fun x hx hne => (k.block x (Nat.lt_of_lt_of_le hx h.size) hne).trans (h.block x hx hne)⟩
theorem grown_drewN {a b : World} {row : Option Nat} (h : a.grownBy b row) (n : Nat) : a.grownBy (b.drewN n) row := ⟨h.os, h.tape, h.output, h.size, h.block⟩
theorem not_empty_of {t : ByteArray} (h : 1 ≤ t.size) : t.toList.isEmpty = false := by
  rw [ByteArray.toList_eq]
  cases e : t.data.toList with
  | nil =>
    have : t.data.toList.length = t.size := by simp
    rw [e] at this
    simp at this
    omega
  | cons _ _ => rfl

set_option maxHeartbeats 1000000 in
theorem Lw.changed (h : Lw w bs K H W) (t u : ByteArray) (ht : t.size ≤ 1000) (hu : u.size ≤ 1000) (ht1 : 1 ≤ t.size) (hu1 : 1 ≤ u.size) (hK : K ≤ 1099511627770) :
    Calls Tryd.prog 59 #[.pointer (some ⟨bs, 0, none⟩), .string t, .string u] W fun e W' =>
      ∃ r : ByteArray, e = .returned (.string r) ∧ r.size ≤ t.size + 4 ∧ Lw w bs (K + 3) H W' ∧ W.grownBy W' (some bs) ∧ W'.heap.size = W.heap.size := by
  have ht0 := not_empty_of ht1
  have hu0 := not_empty_of hu1
  go_enter Tryd.func59, Tryd.ntmps59
  go_wp2_with fail
  refine (h.next' _ (by omega) (by omega) (by omega)).mono ?_
  rintro e W1 ⟨i, rfl, i0, i1, L1, g1, z1⟩
  have G1 := Lib.hid g1
  have Z1 := Lib.hid z1
  clear g1 z1
  obtain ⟨i, rfl⟩ := Int.eq_ofNat_of_zero_le i0
  go_wp2_with fail
  refine (L1.next' _ (by omega) (by omega) (by omega)).mono ?_
  rintro e W2 ⟨j, rfl, j0, j1, L2, g2, z2⟩
  have G2 := Lib.hid g2
  have Z2 := Lib.hid z2
  clear g2 z2
  obtain ⟨j, rfl⟩ := Int.eq_ofNat_of_zero_le j0
  go_wp2_with fail
  refine (L2.next' _ (by omega) (by omega) (by omega)).mono ?_
  rintro e W3 ⟨k, rfl, k0, k1, L3, g3, z3⟩
  have G := Lib.hid (grown_trans3 (grown_trans3 G1.out G2.out) g3)
  have Z := Lib.hid (z3.trans (Z2.out.trans Z1.out))
  clear g3 z3 G1 G2 Z1 Z2
  have f1 : i ≤ t.size := by omega
  have f2 : i + 1 ≤ t.size := by omega
  have f3 : (0 : Int) ≤ (i : Int) + 1 := by omega
  have f5 : (i : Int) ≤ t.size := by omega
  have f6 : (i : Int) + 1 ≤ t.size := by omega
  have f8 : ∀ r : Int, ¬ (9223372036854775807 < i + (Utf8.encode r).size) := fun r => by have := encode_size_le r; omega
  have f9 : ∀ r : Int, ¬ (9223372036854775807 < i + (Utf8.encode r).size + (t.size - (i + 1))) := fun r => by have := encode_size_le r; omega
  have f10 : ∀ r : Int, ¬ (9223372036854775807 < i + (Utf8.encode r).size + (t.size - i)) := fun r => by have := encode_size_le r; omega
  have f11 : ¬ (9223372036854775807 < i + (t.size - (i + 1))) := by omega
  by_cases kk : k = 0
  · subst kk
    go_wp2_with fail
    have f4 : ((i : Int) + 1).toNat = i + 1 := by omega
    have f7 : IntKind.i64.wrap ((i : Int) + 1) = (i : Int) + 1 := IntWalk.i64_in _ (by omega)
    go_quiet (fail)
    clear f4 f7
    go_wp2_with fail
    go_ret
    refine ⟨_, rfl, ?_, L3.drewN _, grown_drewN G.out _, Z.out⟩
    have := encode_size_le (wrap32 (u[j].toNat : Int))
    simp only [ByteArray.size_append, ByteArray.size_extract]
    omega
  · by_cases kk1 : k = 1
    · subst kk1
      go_wp2_with fail
      go_quiet (fail)
      go_wp2_with fail
      go_ret
      refine ⟨_, rfl, ?_, L3.drewN _, grown_drewN G.out _, Z.out⟩
      have := encode_size_le (wrap32 (u[j].toNat : Int))
      simp only [ByteArray.size_append, ByteArray.size_extract]
      omega
    · have k2 : k = 2 := by omega
      subst k2
      clear kk kk1
      go_wp2_with fail
      have f4 : ((i : Int) + 1).toNat = i + 1 := by omega
      have f7 : IntKind.i64.wrap ((i : Int) + 1) = (i : Int) + 1 := IntWalk.i64_in _ (by omega)
      go_quiet (fail)
      clear f4 f7
      go_wp2_with fail
      go_ret
      refine ⟨_, rfl, ?_, L3.drewN _, grown_drewN G.out _, Z.out⟩
      simp only [ByteArray.size_append, ByteArray.size_extract]
      omega

set_option maxHeartbeats 1000000 in
theorem Lw.codeBody (h : Lw w bs K H W) (hK : K ≤ 1000000000000) :
    Calls Tryd.prog 58 #[.pointer (some ⟨bs, 0, none⟩)] W fun e W' =>
      ∃ r : ByteArray, e = .returned (.string r) ∧ r.size ≤ 100 ∧ Lw w bs (K + 100) H W' ∧ W.grownBy W' (some bs) := by
  go_enter Tryd.func58, Tryd.ntmps58
  go_wp2_with fail
  generalize hW : World.alloc W _ = W1
  have HW := Lib.hid hW
  have L1 : Lw w bs K H W1 := by rw [← HW.out]; exact h.alloc _
  have hI : Ints W1 (some ⟨W.heap.size, 0, none⟩) [2, 3, 3, 5, 8, 22, 23, 24] := by
    rw [← HW.out]
    exact Ints.of_row (heap_at rfl) rfl
  have g1 : W.grownBy W1 (some bs) := by rw [← HW.out]; exact World.grownBy_alloc _ _ _
  have G1 := Lib.hid g1
  have HI := Lib.hid hI
  have hlt := h.lt
  clear hW HW hI g1
  refine (L1.pick _ _ [2, 3, 3, 5, 8, 22, 23, 24] HI.out (fun b off e => by injection e with e; injection e with e1 e2; omega) (by simp) (by simp) (by omega)).mono ?_
  rintro e W2 ⟨n, rfl, hn, L2, g2, z2⟩
  have n0 : 2 ≤ n := by simp at hn; omega
  have n1 : n ≤ 24 := by simp at hn; omega
  have G2 := Lib.hid (grown_trans3 G1.out g2)
  clear hn g2 z2 G1 HI L1
  obtain ⟨n, rfl⟩ := Int.eq_ofNat_of_zero_le (show 0 ≤ n by omega)
  go_wp2_with fail
  go_loopw [4, 10] (fun o t wr => ∃ (i : Nat) (s : ByteArray), i ≤ n ∧ t = .int .i64 i ∧ o = .string s ∧ s.size ≤ i ∧ i ≤ s.size ∧ Lw w bs (K + 1 + i) H wr ∧ Hid (W.grownBy wr (some bs))) (fun _ t _ => n - (intOf t).toNat)
  case atStart => exact ⟨0, ⟨#[]⟩, by omega, rfl, rfl, Nat.le_refl 0, Nat.le_refl 0, L2, G2⟩
  case round =>
    obtain ⟨i, s, hi, rfl, rfl, hs, hs', L, g⟩ := hrel
    by_cases hlt2 : i < n
    · go_wp2_with fail
      refine (L.next' 31 (by omega) (by omega) (by omega)).mono ?_
      rintro e W3 ⟨r, rfl, r0, r1, L3, g3, z3⟩
      have G3 := Lib.hid (grown_trans3 g.out g3)
      clear g3 z3 g L
      obtain ⟨r, rfl⟩ := Int.eq_ofNat_of_zero_le r0
      go_wp2_with fail
      go_roundw
      case rel => exact ⟨i + 1, _, by omega, by go_num, rfl, by simp only [ByteArray.size_append, ByteArray.size_extract]; omega, by
        simp only [ByteArray.size_append, ByteArray.size_extract]
        have : (ByteArray.size ⟨#[48, 49, 50, 51, 52, 53, 54, 55, 56, 57, 65, 66, 67, 68, 69, 70, 71, 72, 74, 75, 77, 78, 80, 81, 82, 84, 85, 86, 87, 88, 89]⟩) = 31 := rfl
        omega, L3, G3⟩
      case measure => simp [intOf]; omega
    · go_wp2_with fail
      refine (L.flip 10 (by omega) (by omega)).mono ?_
      rintro e W3 ⟨b, rfl, L3, g3, z3⟩
      have G3 := Lib.hid (grown_trans3 g.out g3)
      clear g3 z3 g L
      cases b with
      | false =>
        go_wp2_with fail
        go_ret
        exact ⟨s, rfl, by omega, L3.more (by omega), G3.out⟩
      | true =>
        go_wp2_with fail
        refine (L3.changed s ⟨#[79, 73, 76, 83, 90, 97, 45]⟩ (by omega) (by decide) (by omega) (by decide) (by omega)).mono ?_
        rintro e W4 ⟨r, rfl, hr, L4, g4, z4⟩
        have G4 := Lib.hid (grown_trans3 G3.out g4)
        clear g4 z4
        go_wp2_with fail
        go_ret
        exact ⟨r, rfl, by omega, L4.more (by omega), G4.out⟩
end
end Go.Proofs.YtecbejmeejepmaaDoor
