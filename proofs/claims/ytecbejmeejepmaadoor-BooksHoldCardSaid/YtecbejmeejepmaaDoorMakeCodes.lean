/- What a stream makes: codes. -/
import Derived.Test.YtecbejmeejepmaaDoorRefCode
import Derived.Test.YtecbejmeejepmaaDoorBody
import Derived.Test.YtecbejmeejepmaaDoorMakeG
namespace Go.Proofs.YtecbejmeejepmaaDoor
set_option linter.unusedVariables false
open Go.RowKit
def SOPost (w : World) (e : Ending) (w' : World) : Prop := (∃ (r : ByteArray) (f : Int), e = .returned (.tuple #[.string r, .int .i64 f]) ∧ r.size ≤ 24 ∧ (f = 0 → 1 ≤ r.size)) ∧ Below w.heap.size w w'
theorem SOPost.mk' {w w' : World} {r : ByteArray} {f : Int} (h : r.size ≤ 24) (h1 : f = 0 → 1 ≤ r.size) (hb : Below w.heap.size w w') : SOPost w (.returned (.tuple #[.string r, .int .i64 f])) w' := ⟨⟨r, f, rfl, h, h1⟩, hb⟩
set_option maxHeartbeats 1000000 in
theorem sealOf_any (s : ByteArray) (w : World) (hs : s.size ≤ 1000) : Calls Tryd.prog 27 #[.string s] w (SOPost w) := by
  by_cases h1 : 3 ≤ s.size ∧ s.size ≤ 23
  · have h1a : (3 : Int) ≤ s.size := by omega
    have h1b : (s.size : Int) ≤ 23 := by omega
    cases h3 : Hb.areSigns s.data.toList with
    | false =>
      clear h1
      go_enter Tryd.func27, Tryd.ntmps27
      go_wp2_with fail
      refine (madeCode_any s _ hs).mono ?_
      rintro e w' ⟨rfl, hb⟩
      rw [h3]
      have HB := Lib.hid hb
      clear hb
      go_wp2_with fail
      go_ret2
      exact SOPost.mk' (by show (0 : Nat) ≤ 24; omega) (fun h => by cases h) HB.out
    | true =>
      have HA := Lib.hid h3
      clear h1
      go_enter Tryd.func27, Tryd.ntmps27
      go_wp2_with fail
      refine (madeCode_any s _ hs).mono ?_
      rintro e w1 ⟨rfl, hb⟩
      rw [h3]
      have HB := Lib.hid hb
      clear hb h3
      go_wp2_with fail
      go_loop [17] (fun t => ∃ i : Nat, i ≤ 31 ∧ t = .int .i64 i) (fun t => 31 - (intOf t).toNat)
      case atStart => exact ⟨0, by omega, rfl⟩
      case round =>
        obtain ⟨i, hi, rfl⟩ := hrel
        by_cases hi31 : i < 31
        · have di : decide ((i : Int) < 31) = true := by simp; omega
          go_wp2_with fail
          rw [snoc_eq s i hi31]
          have hsg : Hb.areSigns (snoc s i).data.toList = true := by
            rw [snoc_list, Hb.areSigns_append, HA.out, sign_is ⟨i, hi31⟩]; rfl
          refine (codeSum_any (snoc s i) _ (by rw [snoc_size]; omega) hsg).mono ?_
          clear hsg
          rintro e w' ⟨rfl, rfl⟩
          have hss := snoc_size s i
          generalize snoc s i = c at hss
          by_cases hz : Hb.csum c.data.toList 0 % 31 = 0
          · have hz' : (Hb.csum c.data.toList 0 % 31 == 0) = true := beq_iff_eq.2 hz
            clear hz
            go_wp2_with fail
            go_ret2
            exact SOPost.mk' (by omega) (fun _ => by omega) HB.out
          · have hz' : (Hb.csum c.data.toList 0 % 31 == 0) = false := beq_eq_false_iff_ne.2 hz
            clear hz
            go_wp2_with fail
            go_round
            case rel => exact ⟨i + 1, by omega, by go_num⟩
            case measure => simp [intOf]; omega
        · have di : decide ((i : Int) < 31) = false := by simp; omega
          go_wp2_with fail
          go_ret2
          exact SOPost.mk' (by show (0 : Nat) ≤ 24; omega) (fun h => by cases h) HB.out
  · by_cases h2 : (3 : Int) ≤ s.size
    · have h2b : (23 : Int) < s.size := by omega
      clear h1
      go_enter Tryd.func27, Tryd.ntmps27
      go_wp2_with fail
      go_ret2
      exact SOPost.mk' (by show (0 : Nat) ≤ 24; omega) (fun h => by cases h) (Below.refl _ _)
    · clear h1
      go_enter Tryd.func27, Tryd.ntmps27
      go_wp2_with fail
      go_ret2
      exact SOPost.mk' (by show (0 : Nat) ≤ 24; omega) (fun h => by cases h) (Below.refl _ _)
theorem below_grown {W W' : World} {row : Option Nat} (h : Below W.heap.size W W') : W.grownBy W' row := ⟨h.os, h.tape, h.output, h.size, fun k hk _ => h.block k hk⟩
section
variable {w W : World} {bs K : Nat} {H : Frz}
/-- What a maker of a string leaves. -/
def SM (w : World) (bs K : Nat) (H : Frz) (m : Nat) (W : World) (e : Ending) (W' : World) : Prop := ∃ r : ByteArray, e = .returned (.string r) ∧ r.size ≤ m ∧ Lw w bs K H W' ∧ W.grownBy W' (some bs)
theorem code5_size {s : ByteArray} (h : s ∈ [(⟨#[]⟩ : ByteArray), ⟨#[49, 50, 51, 67]⟩, ⟨#[49, 50, 51, 68]⟩, ⟨#[49, 50]⟩, ⟨#[49, 50, 79, 51]⟩]) : s.size ≤ 100 := by
  simp at h
  rcases h with rfl | rfl | rfl | rfl | rfl
  · show (0 : Nat) ≤ 100; omega
  · show (4 : Nat) ≤ 100; omega
  · show (4 : Nat) ≤ 100; omega
  · show (2 : Nat) ≤ 100; omega
  · show (4 : Nat) ≤ 100; omega
set_option maxHeartbeats 1000000 in
theorem Lw.code (h : Lw w bs K H W) (hK : K ≤ 1000000000) : Calls Tryd.prog 28 #[.pointer (some ⟨bs, 0, none⟩)] W (SM w bs (K + 110) H 100 W) := by
  go_enter Tryd.func28, Tryd.ntmps28
  go_wp2_with fail
  refine (h.codeBody (by omega)).mono ?_
  rintro e W1 ⟨bd, rfl, hbz, L1, g1⟩
  have HL1 := Lib.hid L1
  have HG1 := Lib.hid g1
  clear L1 g1
  go_wp2_with fail
  refine (sealOf_any bd W1 (by omega)).mono ?_
  rintro e W2 ⟨⟨r, f, rfl, hr, hr1⟩, hb2⟩
  have HL2 := Lib.hid (HL1.out.call hb2)
  have HG2 := Lib.hid (grown_trans3 HG1.out (below_grown (row := some bs) hb2))
  clear hb2 HL1 HG1
  by_cases hf : f = 0
  · subst hf
    have hr1' := hr1 rfl
    clear hr1
    go_wp2_with fail
    refine (HL2.out.flip 3 (by omega) (by omega)).mono ?_
    rintro e W3 ⟨t, rfl, L3, g3, -⟩
    have HL3 := Lib.hid L3
    have HG3 := Lib.hid (grown_trans3 HG2.out g3)
    clear L3 g3 HL2 HG2
    cases t with
    | false =>
      go_wp2_with fail
      go_ret
      exact ⟨_, rfl, by omega, HL3.out.more (by omega), HG3.out⟩
    | true =>
      go_wp2_with fail
      refine (HL3.out.changed r ⟨#[48, 49, 50, 51, 65, 66, 67, 79]⟩ (by omega) (by show (8 : Nat) ≤ 1000; omega) hr1' (by show 1 ≤ (8 : Nat); omega) (by omega)).mono ?_
      rintro e W4 ⟨r4, rfl, hr4, L4, g4, -⟩
      have HL4 := Lib.hid L4
      have HG4 := Lib.hid (grown_trans3 HG3.out g4)
      clear L4 g4 HL3 HG3
      go_wp2_with fail
      go_ret
      exact ⟨_, rfl, by omega, HL4.out.more (by omega), HG4.out⟩
  · have hne : (f != 0) = true := by simpa using hf
    have hS : StrsW (W2.alloc (.cells #[.string ⟨#[]⟩, .string ⟨#[49, 50, 51, 67]⟩, .string ⟨#[49, 50, 51, 68]⟩, .string ⟨#[49, 50]⟩, .string ⟨#[49, 50, 79, 51]⟩] 9)) (some ⟨W2.heap.size, 0, none⟩) [⟨#[]⟩, ⟨#[49, 50, 51, 67]⟩, ⟨#[49, 50, 51, 68]⟩, ⟨#[49, 50]⟩, ⟨#[49, 50, 79, 51]⟩] := StrsW.of_row (heap_at rfl) rfl
    have HS := Lib.hid hS
    have hlt := HL2.out.lt
    clear hS hf hr1
    go_wp2_with fail
    refine ((HL2.out.alloc _).one _ _ [⟨#[]⟩, ⟨#[49, 50, 51, 67]⟩, ⟨#[49, 50, 51, 68]⟩, ⟨#[49, 50]⟩, ⟨#[49, 50, 79, 51]⟩] HS.out (fun b off e => by injection e with e; injection e with e1 e2; omega) (by simp) (by simp) (by omega)).mono ?_
    rintro e W3 ⟨s, rfl, hs, L3, g3, -⟩
    have HL3 := Lib.hid L3
    have HG3 := Lib.hid (grown_trans3 (grown_trans3 HG2.out (grown_alloc _ _)) g3)
    have hs5 := code5_size hs
    clear L3 g3 HL2 HG2 hs HS
    go_wp2_with fail
    go_ret
    exact ⟨_, rfl, hs5, HL3.out.more (by omega), HG3.out⟩
set_option maxHeartbeats 1000000 in
theorem Lw.couponCode (h : Lw w bs K H W) (hK : K ≤ 100000000) : Calls Tryd.prog 10 #[.pointer (some ⟨bs, 0, none⟩)] W (SM w bs (K + 120) H 100 W) := by
  go_enter Tryd.func10, Tryd.ntmps10
  go_wp2_with fail
  refine (h.flip 10 (by omega) (by omega)).mono ?_
  rintro e W1 ⟨t, rfl, L1, g1, -⟩
  have HL1 := Lib.hid L1
  have HG1 := Lib.hid g1
  clear L1 g1 h
  cases t with
  | true =>
    go_wp2_with fail
    refine (HL1.out.code (by omega)).mono ?_
    rintro e W2 ⟨r, rfl, hr, L2, g2⟩
    have HL2 := Lib.hid L2
    have HG2 := Lib.hid (grown_trans3 HG1.out g2)
    clear L2 g2 HL1 HG1
    go_wp2_with fail
    go_ret
    exact ⟨_, rfl, by omega, HL2.out.more (by omega), HG2.out⟩
  | false =>
    have hS : StrsW (W1.alloc (.cells #[.string ⟨#[49, 50, 51]⟩, .string ⟨#[65, 66, 67]⟩, .string ⟨#[88, 89, 48, 48]⟩] 9)) (some ⟨W1.heap.size, 0, none⟩) [⟨#[49, 50, 51]⟩, ⟨#[65, 66, 67]⟩, ⟨#[88, 89, 48, 48]⟩] := StrsW.of_row (heap_at rfl) rfl
    have HS := Lib.hid hS
    have hlt := HL1.out.lt
    clear hS
    go_wp2_with fail
    refine ((HL1.out.alloc _).one _ _ [⟨#[49, 50, 51]⟩, ⟨#[65, 66, 67]⟩, ⟨#[88, 89, 48, 48]⟩] HS.out (fun b off e => by injection e with e; injection e with e1 e2; omega) (by simp) (by simp) (by omega)).mono ?_
    rintro e W2 ⟨s, rfl, hs, L2, g2, -⟩
    have HL2 := Lib.hid L2
    have HG2 := Lib.hid (grown_trans3 (grown_trans3 HG1.out (grown_alloc _ _)) g2)
    have hs3 : s.size ≤ 4 := by
      simp at hs
      rcases hs with rfl | rfl | rfl
      · show (3 : Nat) ≤ 4; omega
      · show (3 : Nat) ≤ 4; omega
      · show (4 : Nat) ≤ 4; omega
    clear L2 g2 HL1 HG1 hs HS
    go_wp2_with fail
    refine (sealOf_any s W2 (by omega)).mono ?_
    rintro e W3 ⟨⟨r, f, rfl, hr, -⟩, hb3⟩
    have HL3 := Lib.hid (HL2.out.call hb3)
    have HG3 := Lib.hid (grown_trans3 HG2.out (below_grown (row := some bs) hb3))
    clear hb3 HL2 HG2
    go_wp2_with fail
    go_ret
    exact ⟨_, rfl, by omega, HL3.out.more (by omega), HG3.out⟩
end
end Go.Proofs.YtecbejmeejepmaaDoor
