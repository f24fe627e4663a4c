/- Batches of codes in package offer: power, times, inverse, checkBatch. -/
import Derived.Test.YtadfoaopamlnpaaDiv64
import Derived.Test.YtadfoaopamlnpaaBatchP
import Derived.Test.YtadfoaopamlnpaaOffText
namespace Go.Proofs.Ytadfoaopamlnpaa
set_option linter.unusedVariables false
open Go.RowKit

theorem pow_le (i : Nat) (h : i ≤ 11) : Hb.p31 i ≤ 25408476896404831 := Nat.le_trans (Nat.pow_le_pow_right (by omega) h) (by decide)

set_option maxHeartbeats 400000 in
theorem power_any (c : Nat) (w : World) (hc : c ≤ 11) : Calls Try.prog 51 #[.int .i64 c] w fun e w' => e = .returned (.int .i64 (Hb.p31 c : Int)) ∧ w = w' := by
  go_enter Try.func51, Try.ntmps51
  go_wp2_with fail
  go_loop [3, 5] (fun o t => ∃ i : Nat, i ≤ c ∧ t = .int .i64 i ∧ o = .int .i64 (Hb.p31 i : Int)) (fun _ t => c - (intOf t).toNat)
  case atStart => exact ⟨0, by omega, rfl, rfl⟩
  case round =>
    obtain ⟨i, hi, rfl, rfl⟩ := hrel
    have hp := pow_le i (by omega)
    have hs := Lib.hid (show Hb.p31 (i + 1) = Hb.p31 i * 31 from Nat.pow_succ 31 i)
    generalize hP : Hb.p31 i = P at hp hs ⊢
    have HP := Lib.hid hP
    clear hP
    by_cases hlt : i < c
    · go_wp2_with fail
      go_round
      case rel => exact ⟨i + 1, by omega, by go_num, by rw [hs.out]; go_num⟩
      case measure => simp [intOf]; omega
    · go_wp2_with fail
      go_ret
      exact ⟨ret_int (by rw [← HP.out, show i = c from by omega]), rfl⟩

theorem times_val (a b m : Nat) : (a * b / 18446744073709551616 % m * 18446744073709551616 + a * b % 18446744073709551616) % m = a * b % m := by
  have h := Nat.div_add_mod' (a * b) 18446744073709551616
  rw [Nat.add_mod, Nat.mod_mul_mod, ← Nat.add_mod, h]

set_option maxHeartbeats 400000 in
theorem times_any (a b m : Nat) (w : World) (ha : a ≤ 9223372036854775807) (hb : b ≤ 9223372036854775807) (hm : m ≤ 9223372036854775807) (h0 : 0 < m) :
    Calls Try.prog 52 #[.int .i64 a, .int .i64 b, .int .i64 m] w fun e w' => e = .returned (.int .i64 ((a * b % m : Nat) : Int)) ∧ ∃ n, w' = w.drewN n := by
  have hv := Lib.hid (times_val a b m)
  have hm0 : ((m : Int) == 0) = false := beq_eq_false_iff_ne.2 (by omega)
  go_enter Try.func52, Try.ntmps52
  go_wp2_with fail
  refine (Try.bits_Mul64 a b (by omega) (by omega) _).mono ?_
  rintro e w' ⟨rfl, rfl⟩
  have l1 : a * b % 18446744073709551616 < 18446744073709551616 := Nat.mod_lt _ (by omega)
  have l2 : a * b / 18446744073709551616 < 18446744073709551616 := by
    rw [Nat.div_lt_iff_lt_mul (by omega)]
    exact Nat.lt_of_le_of_lt (Nat.mul_le_mul ha hb) (by decide)
  have l3 : a * b / 18446744073709551616 % m < m := Nat.mod_lt _ h0
  have l4 : a * b % m < m := Nat.mod_lt _ h0
  generalize a * b % 18446744073709551616 = lo at l1 hv ⊢
  generalize a * b / 18446744073709551616 = hi at l2 l3 hv ⊢
  go_wp2_with fail
  rw [show ((hi : Int) % (m : Int)) = ((hi % m : Nat) : Int) from by simp]
  refine (div64_any (hi % m) lo m _ l1 (by omega) l3).mono ?_
  rintro e w' ⟨rfl, n, rfl⟩
  rw [hv.out]
  generalize hr : a * b % m = r at l4 ⊢
  have HR := Lib.hid hr
  clear hr
  generalize (hi % m * 18446744073709551616 + lo) / m = qq
  go_wp2_with fail
  go_ret
  exact ⟨ret_int (by rw [HR.out]), n, rfl⟩

set_option maxHeartbeats 1000000 in
theorem inverse_any {c all N : Nat} (C : Hb.Cnt c all N) (w : World) : Calls Try.prog 55 #[.int .i64 all] w fun e w' => e = .returned (.int .i64 (Hb.inv all N)) ∧ ∃ n, w' = w.drewN n := by
  have c1 := C.big
  have c2 := C.sm
  go_enter Try.func55, Try.ntmps55
  go_wp2_with fail
  go_loopw [3, 4, 5, 6] (fun s3 s4 s5 s6 wr => ∃ k n : Nat, k ≤ N ∧ s3 = .int .i64 (Hb.stn all k).1 ∧ s4 = .int .i64 (Hb.stn all k).2.1 ∧ s5 = .int .i64 (Hb.stn all k).2.2.1 ∧ s6 = .int .i64 (Hb.stn all k).2.2.2 ∧ wr = w.drewN n) (fun s _ _ _ _ => (intOf s).toNat)
  case atStart => exact ⟨0, 0, by omega, rfl, rfl, rfl, rfl, rfl⟩
  case round =>
    obtain ⟨k, n, hk, rfl, rfl, rfl, rfl, rfl⟩ := hrel
    by_cases hlt : k < N
    · have ho := Hb.okAt_of C.ok hlt
      have e := Lib.hid (show Hb.stn all (k + 1) = Hb.stp (Hb.stn all k) from rfl)
      generalize Hb.stn all k = st at ho e ⊢
      obtain ⟨a, b, x, y⟩ := st
      unfold Hb.okAt at ho
      simp only [Bool.and_eq_true, decide_eq_true_eq] at ho
      obtain ⟨⟨⟨⟨⟨⟨⟨⟨⟨⟨⟨⟨o1, o2⟩, o3⟩, o4⟩, o5⟩, o6⟩, o7⟩, o8⟩, o9⟩, o10⟩, o11⟩, o12⟩, o13⟩ := ho
      simp only [Hb.stp] at o3 o4 o12 o13
      replace o5 := Hb.small_iff o5
      replace o6 := Hb.small_iff o6
      replace o7 := Hb.small_iff o7
      replace o8 := Hb.small_iff o8
      replace o9 := Hb.small_iff o9
      replace o10 := Hb.small_iff o10
      replace o11 := Hb.small_iff o11
      replace o12 := Hb.small_iff o12
      replace o13 := Hb.small_iff o13
      have ha : (a != 0) = true := by simp; omega
      go_wp2_with fail
      go_roundw
      case rel => exact ⟨k + 1, n, by omega, by rw [e.out]; rfl, by rw [e.out]; rfl, by rw [e.out]; rfl, by rw [e.out]; rfl, rfl⟩
      case measure => simp only [intOf]; omega
    · have hkN : k = N := by omega
      subst hkN
      have hf := Lib.hid C.fin
      have hy := Hb.small_iff C.ysm
      have hi := Lib.hid (show Hb.inv all k = ((Hb.stn all k).2.2.2.tmod all + all) % all from rfl)
      rw [hf.out]
      generalize Hb.stn all k = st at hy hi hf ⊢
      obtain ⟨a, b, x, y⟩ := st
      simp only at hy hi ⊢
      have ht1 := Int.lt_tmod_of_pos y (show (0 : Int) < all by omega)
      have ht2 := Int.tmod_lt_of_pos y (show (0 : Int) < all by omega)
      go_wp2_with fail
      go_ret
      exact ⟨ret_int (by rw [hi.out, Int.add_emod_right]), n, rfl⟩

set_option maxHeartbeats 400000 in
theorem checkBatch_any {c all N : Nat} (C : Hb.Cnt c all N) (key : Nat) (w : World) (hk : key < all) :
    Calls Try.prog 50 #[.string ⟨#[88]⟩, .int .i64 c, .int .i64 key] w fun e w' => e = .returned (.int .i64 0) ∧ w = w' := by
  have c1 := C.lo
  have c2 := C.hi
  have c3 := C.sm
  have c4 := C.big
  have d1 : (decide ((3 : Int) ≤ (c : Int)) && decide ((c : Int) ≤ 11)) = true := by simp; omega
  have d2 : (decide ((0 : Int) ≤ (key : Int)) && decide ((key : Int) ≤ (all : Int) - 1)) = true := by simp; omega
  go_enter Try.func50, Try.ntmps50
  go_wp2_with fail
  refine (areSigns_any ⟨#[88]⟩ _ (by decide)).mono ?_
  rintro e w' ⟨rfl, rfl⟩
  rw [show Hb.areSigns (ByteArray.data ⟨#[88]⟩).toList = true from by decide +kernel]
  go_wp2_with fail
  refine (owithin_any _ _ _ _).mono ?_
  rintro e w' ⟨rfl, rfl⟩
  rw [d1]
  go_wp2_with fail
  refine (power_any c _ c2).mono ?_
  rintro e w' ⟨rfl, rfl⟩
  rw [C.pow]
  go_wp2_with fail
  refine (owithin_any _ _ _ _).mono ?_
  rintro e w' ⟨rfl, rfl⟩
  rw [d2]
  go_wp2_with fail
  go_ret
  exact ⟨rfl, rfl⟩

/-- The codes of a batch. -/
def IsCode (c all key n : Nat) (x : ByteArray) : Prop :=
  ∃ k, k < 31 ∧ x = snoc ⟨(88 :: Hb.low c (Hb.bv all key n)).toArray⟩ k ∧ Hb.csum (88 :: Hb.low c (Hb.bv all key n) ++ [Hb.sg k]) 0 % 31 = 0

theorem code_facts {c all N key n : Nat} (C : Hb.Cnt c all N) {x : ByteArray} (h : IsCode c all key n x) :
    x.size = c + 2 ∧ codeErr x = 0 ∧ ∃ k, x.data.toList = 88 :: Hb.low c (Hb.bv all key n) ++ [Hb.sg k] := by
  obtain ⟨k, hk, rfl, hs⟩ := h
  have c1 := C.lo
  have c2 := C.hi
  have hl : (snoc ⟨(88 :: Hb.low c (Hb.bv all key n)).toArray⟩ k).data.toList = 88 :: Hb.low c (Hb.bv all key n) ++ [Hb.sg k] := by rw [snoc_list]
  have hz : (snoc ⟨(88 :: Hb.low c (Hb.bv all key n)).toArray⟩ k).size = c + 2 := by
    have : (snoc ⟨(88 :: Hb.low c (Hb.bv all key n)).toArray⟩ k).data.toList.length = c + 2 := by rw [hl]; simp [Hb.low_length]
    simpa using this
  refine ⟨hz, codeErr_ok (by omega) (by omega) ?_ (by rw [hl]; exact hs), k, hl⟩
  rw [hl, show (88 :: Hb.low c (Hb.bv all key n) ++ [Hb.sg k]) = [88] ++ Hb.low c (Hb.bv all key n) ++ [Hb.sg k] from rfl, Hb.areSigns_append, Hb.areSigns_append, Hb.low_signs, sign_is ⟨k, hk⟩]
  decide +kernel

theorem hinvn {c all N : Nat} (C : Hb.Cnt c all N) : ∃ I : Nat, I < all ∧ (7919 * I) % all = 1 ∧ ∀ w : World, Calls Try.prog 55 #[.int .i64 all] w fun e w' => e = .returned (.int .i64 I) ∧ ∃ n, w' = w.drewN n := by
  refine ⟨(Hb.inv all N).toNat, ?_, C.one, fun w => ?_⟩
  · have h1 := C.pos
    have h2 := C.lt
    omega
  · rw [Int.toNat_of_nonneg C.pos]
    exact inverse_any C w

set_option maxHeartbeats 1000000 in
theorem number_any {c all N : Nat} (C : Hb.Cnt c all N) (key n : Nat) (x : ByteArray) (w : World) (hk : key < all) (hn : n < all) (hx : IsCode c all key n x) :
    Calls Try.prog 21 #[.string ⟨#[88]⟩, .int .i64 c, .int .i64 key, .string x] w fun e w' => e = .returned (.tuple #[.int .i64 n, .int .i64 0]) ∧ ∃ m, w' = w.drewN m := by
  obtain ⟨f1, f2, k, f3⟩ := code_facts C hx
  have c1 := C.lo
  have c2 := C.hi
  have c3 := C.sm
  have c4 := C.big
  have F2 := Lib.hid f2
  have F3 := Lib.hid f3
  have F1 := Lib.hid f1
  have f1a : x.size ≤ c + 2 := by omega
  have f1b : c + 2 ≤ x.size := by omega
  clear f1 f2 f3 hx
  go_enter Try.func21, Try.ntmps21
  go_wp2_with fail
  refine (checkBatch_any C key _ hk).mono ?_
  rintro e w' ⟨rfl, rfl⟩
  go_wp2_with fail
  refine (checkCode_any x _ (by omega)).mono ?_
  rintro e w' ⟨rfl, rfl⟩
  rw [F2.out]
  have d1 : ((x.size : Int) != 1 + (c : Int) + 1) = false := by simp; omega
  go_wp2_with fail
  refine (Try.strings_HasPrefix x ⟨#[88]⟩ _).mono ?_
  rintro e w' ⟨rfl, rfl⟩
  rw [show Lib.hasPrefix x.data.toList (ByteArray.data ⟨#[88]⟩).toList = true from by rw [F3.out]; simp [Lib.hasPrefix]]
  go_wp2_with fail
  refine (power_any c _ c2).mono ?_
  rintro e w' ⟨rfl, rfl⟩
  rw [C.pow]
  have hbv := Hb.bv_lt (all := all) (key := key) (n := n) (by omega)
  have HBK := Lib.hid (Hb.bv_back (all := all) (key := key) (n := n) (by omega) hk)
  have hget := Lib.hid (fun i hi => Hb.low_get c (Hb.bv all key n) i hi)
  have hp := C.pow
  have hz : Hid (Hb.bv all key n / 31 ^ c = 0) := Nat.div_eq_of_lt (by have e : 31 ^ c = all := hp; rw [e]; exact hbv)
  generalize Hb.bv all key n = v at hbv HBK hget F3 hz
  clear hp
  go_wp2_with fail
  go_loop [12, 44] (fun o t => ∃ i : Nat, i ≤ c ∧ t = .int .i64 i ∧ o = .int .i64 ((v / 31 ^ (c - i) : Nat) : Int)) (fun _ t => c - (intOf t).toNat)
  case atStart => exact ⟨0, by omega, rfl, by rw [Nat.sub_zero, hz.out]; rfl⟩
  case round =>
    obtain ⟨i, hi, rfl, rfl⟩ := hrel
    have hd : v / 31 ^ (c - i) ≤ v := Nat.div_le_self _ _
    by_cases hlt : i < c
    · have hstep : Hid (v / 31 ^ (c - (i + 1)) = v / 31 ^ (c - i) * 31 + (v / 31 ^ (c - 1 - i)) % 31) := by
        show _ = _
        have e1 : c - (i + 1) = c - 1 - i := by omega
        have e2 : c - i = c - 1 - i + 1 := by omega
        rw [e1, e2, Nat.pow_succ, ← Nat.div_div_eq_div_mul]
        omega
      have hsm : v / 31 ^ (c - (i + 1)) ≤ v := Nat.div_le_self _ _
      have hidx : 1 + i < x.size := by omega
      have hb : Hid (x[1 + i] = Hb.sg ((v / 31 ^ (c - 1 - i)) % 31)) := by
        show x.data[1 + i] = _
        have h1 : x.data.toList[1 + i]? = some (x.data[1 + i]) := by
          rw [List.getElem?_eq_getElem (by simpa using hidx)]; simp
        have h2 : x.data.toList[1 + i]? = (Hb.low c v)[i]? := by
          rw [F3.out, Nat.add_comm 1 i]
          simp only [List.cons_append, List.getElem?_cons_succ]
          rw [List.getElem?_append_left (by rw [Hb.low_length]; omega)]
        rw [h2, hget.out i hlt] at h1
        injection h1 with h1
        exact h1.symm
      have hv := Hb.val_sg (v / 31 ^ (c - 1 - i))
      rw [← hb.out] at hv
      have hm := Nat.mod_lt (v / 31 ^ (c - 1 - i)) (show 31 > 0 by omega)
      have hmx : v / 31 ^ (c - i) * 31 + (v / 31 ^ (c - 1 - i)) % 31 ≤ v := by rw [← hstep.out]; exact hsm
      generalize (v / 31 ^ (c - 1 - i)) % 31 = dg at hv hm hmx hstep hb
      generalize v / 31 ^ (c - i) = ac at hd hmx hstep ⊢
      have HV := Lib.hid hv
      clear hv hsm hb
      go_wp2_with fail
      refine (index_sign x[1 + i] _).mono ?_
      rintro e w2 ⟨rfl, rfl⟩
      rw [HV.out]
      go_wp2_with fail
      go_round
      case rel => exact ⟨i + 1, by omega, by go_num, by rw [hstep.out]; go_num⟩
      case measure => simp [intOf]; omega
    · have hv0 : v / 31 ^ (c - i) = v := by rw [show c - i = 0 from by omega, Nat.pow_zero, Nat.div_one]
      rw [hv0]
      clear hv0 hd hget F3 hz
      have hI := hinvn C
      obtain ⟨I, hIlt, hI1, hIc⟩ := hI
      have HI1 := Lib.hid hI1
      have HIc := Lib.hid hIc
      have hback := Lib.hid (Hb.back hI1 hn)
      have e1 : IntKind.i64.wrap ((v : Int) - key) = (v : Int) - key := IntWalk.i64_in _ (by omega)
      have e2 : IntKind.i64.wrap ((v : Int) - key + all) = (v : Int) - key + all := IntWalk.i64_in _ (by omega)
      have e3 : ((v : Int) - key + all).tmod all = ((n * 7919 % all : Nat) : Int) := by
        rw [← HBK.out, Int.tmod_eq_emod_of_nonneg (by omega)]
        rw [show ((v : Int) - key + all) = ((v + (all - key) : Nat) : Int) from by omega]
        simp
      have hlt2 := Nat.mod_lt (n * 7919) (show all > 0 by omega)
      generalize n * 7919 % all = t at e3 hlt2 hback
      clear hI1 hIc
      go_wp2_with fail
      go_quiet (first | (go_at_call 55; exact Calls.quiet_of (HIc.out _)) | (go_at_call 52; exact Calls.quiet_of (times_any t I all _ (by omega) (by omega) (by omega) (by omega))))
      go_wp2_with fail
      go_ret2
      exact ⟨ret_two (by rw [hback.out]) rfl, _, rfl⟩
end Go.Proofs.Ytadfoaopamlnpaa
