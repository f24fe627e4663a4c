/- Texts of this claim, put together: Code, OffCode, Offers. -/
import Derived.Lib.Bytealg
import Derived.Test.YtihcmifikbkbcaaGreatShelf
import Derived.Test.YtihcmifikbkbcaaGreatPA
/- Plain facts on codes: signs, their sums modulo 31, sealing, what a change does: no program in sight. -/
namespace Hb
open Go

def signs : List UInt8 := [48, 49, 50, 51, 52, 53, 54, 55, 56, 57, 65, 66, 67, 68, 69, 70, 71, 72, 74, 75, 77, 78, 80, 81, 82, 84, 85, 86, 87, 88, 89]

/-- The k-th sign. -/
def sg (k : Nat) : UInt8 := signs[k]!

def val (c : UInt8) : Int := Lib.indexByte signs c

theorem index_get (l : List UInt8) (c : UInt8) (k : Nat) (h : Lib.indexByte l c = (k : Int)) : l[k]? = some c := by
  induction l generalizing k with
  | nil => simp [Lib.indexByte] at h
  | cons b l ih =>
    unfold Lib.indexByte at h
    split at h
    · rename_i hb
      obtain rfl : k = 0 := by omega
      simp at hb
      simp [hb]
    · split at h
      · omega
      · obtain ⟨m, rfl⟩ : ∃ m, k = m + 1 := ⟨k - 1, by
          have := Lib.indexByte_ge l c
          rename_i h1 h2
          simp at h2
          omega⟩
        have := ih m (by omega)
        simpa using this

theorem val_lt (c : UInt8) : val c < 31 := by
  have h1 := Lib.indexByte_ge signs c
  by_cases h : val c < 0
  · omega
  · obtain ⟨k, hk⟩ := Int.eq_ofNat_of_zero_le (show 0 ≤ val c by omega)
    have := index_get signs c k hk
    have hl := (List.getElem?_eq_some_iff.1 this).1
    have : signs.length = 31 := rfl
    omega
theorem val_inj {c d : UInt8} (h : val c = val d) (h0 : 0 ≤ val c) : c = d := by
  obtain ⟨k, hk⟩ := Int.eq_ofNat_of_zero_le h0
  have e1 := index_get signs c k hk
  have e2 := index_get signs d k (show val d = k from h ▸ hk)
  rw [e1] at e2
  injection e2
theorem val_get : ∀ k : Fin 31, val (sg k.val) = k.val := by decide +kernel

def areSigns (l : List UInt8) : Bool := l.all fun c => decide (0 ≤ val c)
theorem areSigns_mem {l : List UInt8} (h : areSigns l = true) {c : UInt8} (hc : c ∈ l) : 0 ≤ val c := by
  unfold areSigns at h
  rw [List.all_eq_true] at h
  simpa using h c hc
theorem areSigns_append (a b : List UInt8) : areSigns (a ++ b) = (areSigns a && areSigns b) := by unfold areSigns; exact List.all_append

/-- The sum of signs, the first at place n + 1. -/
def csum : List UInt8 → Nat → Int
  | [], _ => 0
  | c :: l, n => ((n : Int) + 1) * val c + csum l (n + 1)

theorem csum_append (a b : List UInt8) (n : Nat) : csum (a ++ b) n = csum a n + csum b (n + a.length) := by
  induction a generalizing n with
  | nil => simp [csum]
  | cons c a ih =>
    rw [List.cons_append, csum, csum, ih, List.length_cons, show n + 1 + a.length = n + (a.length + 1) from by omega]
    omega

theorem csum_snoc (l : List UInt8) (c : UInt8) : csum (l ++ [c]) 0 = csum l 0 + ((l.length : Int) + 1) * val c := by
  rw [csum_append]; simp [csum]

theorem csum_bounds {l : List UInt8} (h : areSigns l = true) (n : Nat) (hn : n + l.length ≤ 1000) : 0 ≤ csum l n ∧ csum l n ≤ l.length * 31000 := by
  induction l generalizing n with
  | nil => simp [csum]
  | cons c l ih =>
    have hc := areSigns_mem h (c := c) List.mem_cons_self
    have hl := val_lt c
    have h' : areSigns l = true := by unfold areSigns at h ⊢; simp at h ⊢; exact h.2
    simp only [List.length_cons] at hn ⊢
    have := ih h' (n + 1) (by omega)
    rw [csum]
    have h1 : 0 ≤ ((n : Int) + 1) * val c := Int.mul_nonneg (by omega) hc
    have h2 : ((n : Int) + 1) * val c ≤ 1000 * 31 := Int.mul_le_mul (by omega) (by omega) hc (by omega)
    omega

theorem csum_set (l : List UInt8) (n i : Nat) (x : UInt8) (h : i < l.length) : csum (l.set i x) n = csum l n + ((n : Int) + i + 1) * (val x - val l[i]) := by
  induction l generalizing n i with
  | nil => simp at h
  | cons c l ih =>
    cases i with
    | zero =>
      simp only [List.set_cons_zero, csum, List.getElem_cons_zero, Int.mul_sub]
      simp
      omega
    | succ i =>
      simp only [List.set_cons_succ, csum, List.getElem_cons_succ]
      rw [ih (n + 1) i (by simpa using h)]
      have : ((n + 1 : Nat) : Int) + (i : Int) + 1 = (n : Int) + ((i + 1 : Nat) : Int) + 1 := by omega
      rw [this]
      omega

theorem prime31 : ∀ a : Fin 31, ∀ b : Fin 31, a.val ≠ 0 → b.val ≠ 0 → (a.val * b.val) % 31 ≠ 0 := by decide +kernel

/-- 31 is prime: a product of two numbers that are not 0 and smaller than 31 in size is no multiple of it. -/
theorem no_multiple {a b : Int} (ha : a ≠ 0) (ha1 : -31 < a) (ha2 : a < 31) (hb : b ≠ 0) (hb1 : -31 < b) (hb2 : b < 31) : (a * b) % 31 ≠ 0 := by
  have key := prime31 ⟨a.natAbs, by omega⟩ ⟨b.natAbs, by omega⟩ (by simpa using ha) (by simpa using hb)
  simp only at key
  rw [← Int.natAbs_mul] at key
  intro h
  apply key
  have hd : (31 : Int) ∣ a * b := Int.dvd_of_emod_eq_zero h
  have : (31 : Nat) ∣ (a * b).natAbs := by
    have := Int.natAbs_dvd_natAbs.2 hd
    simpa using this
  exact Nat.mod_eq_zero_of_dvd this

theorem shift_mod {s d : Int} (hs : s % 31 = 0) (hd : d % 31 ≠ 0) : (s + d) % 31 ≠ 0 := by omega

/-- Another sign at one place: the sum is no more 0. -/
theorem csum_changed {l : List UInt8} {i : Nat} {x : UInt8} (hl : l.length ≤ 24) (hi : i < l.length) (hs : areSigns l = true) (hx : 0 ≤ val x) (h0 : csum l 0 % 31 = 0) (hne : l.set i x ≠ l) :
    csum (l.set i x) 0 % 31 ≠ 0 := by
  rw [csum_set _ _ _ _ hi]
  apply shift_mod h0
  have hv := val_lt x
  have hv1 := val_lt l[i]
  have hv2 := areSigns_mem hs (List.getElem_mem hi)
  have hd : val x ≠ val l[i] := fun e => hne (by rw [val_inj e hx]; exact List.set_getElem_self hi)
  exact no_multiple (by omega) (by omega) (by omega) (by omega) (by omega) (by omega)

/-- Two different signs exchanged: the sum is no more 0. -/
theorem csum_swapped {l : List UInt8} {i j : Nat} (hl : l.length ≤ 24) (hi : i < l.length) (hj : j < l.length) (hs : areSigns l = true) (h0 : csum l 0 % 31 = 0)
    (hne : (l.set i l[j]).set j l[i] ≠ l) : csum ((l.set i l[j]).set j l[i]) 0 % 31 ≠ 0 := by
  have hij : i ≠ j := by
    rintro rfl
    apply hne
    rw [List.set_getElem_self, List.set_getElem_self]
  have hv1 := val_lt l[i]
  have hv2 := areSigns_mem hs (List.getElem_mem hi)
  have hv3 := val_lt l[j]
  have hv4 := areSigns_mem hs (List.getElem_mem hj)
  have hd : val l[i] ≠ val l[j] := by
    intro e
    apply hne
    have := val_inj e hv2
    rw [this]
    have e1 : l.set i l[j] = l := by rw [← this]; exact List.set_getElem_self hi
    rw [e1]
    exact List.set_getElem_self hj
  rw [csum_set _ _ _ _ (by simpa using hj), csum_set _ _ _ _ hi, List.getElem_set_ne hij]
  rw [Int.add_assoc]
  apply shift_mod h0
  have e : (((0 : Nat) : Int) + (i : Int) + 1) * (val l[j] - val l[i]) + (((0 : Nat) : Int) + (j : Int) + 1) * (val l[i] - val l[j]) = ((i : Int) - j) * (val l[j] - val l[i]) := by
    rw [show val l[i] - val l[j] = -(val l[j] - val l[i]) from by omega, Int.mul_neg, ← Int.sub_eq_add_neg, ← Int.sub_mul]
    congr 1
    omega
  rw [e]
  exact no_multiple (by omega) (by omega) (by omega) (by omega) (by omega) (by omega)

theorem areSigns_set {l : List UInt8} {i : Nat} {x : UInt8} (hs : areSigns l = true) (hx : 0 ≤ val x) : areSigns (l.set i x) = true := by
  unfold areSigns at hs ⊢
  rw [List.all_eq_true] at hs ⊢
  intro c hc
  rcases List.mem_or_eq_of_mem_set hc with h | h
  · exact hs c h
  · subst h; simpa using hx

theorem solve31 : ∀ m : Fin 25, ∀ r : Fin 31, m.val ≠ 0 → ∃ k : Fin 31, (r.val + m.val * k.val) % 31 = 0 := by decide +kernel

/-- Some sign seals a body. -/
theorem sealed {l : List UInt8} (hl : l.length ≤ 23) : ∃ k : Nat, k < 31 ∧ csum (l ++ [sg k]) 0 % 31 = 0 := by
  have hr := Int.emod_nonneg (csum l 0) (show (31 : Int) ≠ 0 by omega)
  have hr2 := Int.emod_lt_of_pos (csum l 0) (show (0 : Int) < 31 by omega)
  obtain ⟨k, hk⟩ := solve31 ⟨l.length + 1, by omega⟩ ⟨(csum l 0 % 31).toNat, by omega⟩ (by simp)
  refine ⟨k.val, k.isLt, ?_⟩
  rw [csum_snoc, val_get k]
  simp only at hk
  have h2 : (((csum l 0 % 31).toNat + (l.length + 1) * k.val : Nat) : Int) % 31 = 0 := by omega
  rw [Int.natCast_add, Int.natCast_mul, Int.toNat_of_nonneg hr] at h2
  have e : ((l.length + 1 : Nat) : Int) = (l.length : Int) + 1 := by omega
  rw [e] at h2
  generalize ((l.length : Int) + 1) * (k.val : Int) = t at h2 ⊢
  omega

end Hb

/- Codes of package offer: signs, their sum, how a body becomes a code. -/
namespace Go.Proofs.YtihcmifikbkbcaaGreat
set_option linter.unusedVariables false
open Go.RowKit

theorem ret_bool {a b : Bool} (h : a = b) : Ending.returned (.bool a) = .returned (.bool b) := by rw [h]
theorem ret_string {a b : ByteArray} (h : a = b) : Ending.returned (.string a) = .returned (.string b) := by rw [h]
theorem u8_back (c : UInt8) : ((c.toNat : Int).toNat.toUInt8) = c := by simp

theorem take_snoc (s : ByteArray) (k : Nat) (h : k < s.size) : s.data.toList.take (k + 1) = s.data.toList.take k ++ [s[k]] := by
  rw [List.take_succ_eq_append_getElem (by simpa using h)]; rfl

theorem index_sign (c : UInt8) (w : World) : Calls Tryz.prog 93 #[.string ⟨#[48, 49, 50, 51, 52, 53, 54, 55, 56, 57, 65, 66, 67, 68, 69, 70, 71, 72, 74, 75, 77, 78, 80, 81, 82, 84, 85, 86, 87, 88, 89]⟩, .int .u8 (c.toNat : Int)] w fun e w' =>
    e = .returned (.int .i64 (Hb.val c)) ∧ w = w' :=
  (Tryz.strings_IndexByte _ (c.toNat : Int) w).mono fun e w' ⟨he, hw⟩ => ⟨by rw [he, u8_back]; rfl, hw.symm⟩

set_option maxHeartbeats 400000 in
theorem owithin_any (n l h : Int) (w : World) : Calls Tryz.prog 64 #[.int .i64 n, .int .i64 l, .int .i64 h] w fun e w' => e = .returned (.bool (decide (l ≤ n) && decide (n ≤ h))) ∧ w = w' := by
  by_cases h1 : l ≤ n
  · go_enter Tryz.func64, Tryz.ntmps64
    go_wp2
    go_ret
    exact ⟨by simp [h1], rfl⟩
  · go_enter Tryz.func64, Tryz.ntmps64
    go_wp2
    go_ret
    exact ⟨by simp; omega, rfl⟩

set_option maxHeartbeats 400000 in
theorem areSigns_any (s : ByteArray) (w : World) (hs : s.size ≤ 1000) :
    Calls Tryz.prog 65 #[.string s] w fun e w' => e = .returned (.bool (Hb.areSigns s.data.toList)) ∧ w = w' := by
  go_enter Tryz.func65, Tryz.ntmps65
  go_wp2_with fail
  go_loop [6] (fun t => ∃ i : Nat, i ≤ s.size ∧ t = .int .i64 i ∧ Hid (Hb.areSigns (s.data.toList.take i) = true)) (fun t => s.size - (intOf t).toNat)
  case atStart => exact ⟨0, by omega, rfl, rfl⟩
  case round =>
    obtain ⟨i, hi, rfl, hp⟩ := hrel
    by_cases hlt : i < s.size
    · have ht := Lib.hid (take_snoc s i hlt)
      have hm : Hid (s[i] ∈ s.data.toList) := by show s.data[i] ∈ _; simp
      go_wp2_with fail
      refine (index_sign s[i] _).mono ?_
      rintro e w' ⟨rfl, rfl⟩
      generalize s[i] = c at ht hm ⊢
      by_cases hv : Hb.val c < 0
      · go_wp2_with fail
        go_ret
        refine ⟨ret_bool ?_, rfl⟩
        have : Hb.areSigns s.data.toList = false := by
          cases e : Hb.areSigns s.data.toList with
          | false => rfl
          | true => have := Hb.areSigns_mem e hm.out; omega
        rw [this]
      · have hv' : 0 ≤ Hb.val c := by omega
        go_wp2_with fail
        go_round
        case rel => exact ⟨i + 1, by omega, by go_num, by
          show _ = true
          rw [ht.out, Hb.areSigns_append, hp.out]
          simp [Hb.areSigns, hv']⟩
        case measure => simp [intOf]; omega
    · go_wp2_with fail
      go_ret
      refine ⟨ret_bool ?_, rfl⟩
      have := hp.out
      rw [List.take_of_length_le (by simp; omega)] at this
      rw [this]

set_option maxHeartbeats 400000 in
theorem osum_any (s : ByteArray) (w : World) (hs : s.size ≤ 1000) (ha : Hb.areSigns s.data.toList = true) :
    Calls Tryz.prog 94 #[.string s] w fun e w' => e = .returned (.int .i64 (Hb.csum s.data.toList 0 % 31)) ∧ w = w' := by
  have HA := Lib.hid ha
  clear ha
  go_enter Tryz.func94, Tryz.ntmps94
  go_wp2_with fail
  go_loop [3, 7] (fun o t => ∃ i : Nat, i ≤ s.size ∧ t = .int .i64 i ∧ o = .int .i64 (Hb.csum (s.data.toList.take i) 0)) (fun _ t => s.size - (intOf t).toNat)
  case atStart => exact ⟨0, by omega, rfl, rfl⟩
  case round =>
    obtain ⟨i, hi, rfl, rfl⟩ := hrel
    have hA : Hb.areSigns (s.data.toList.take i) = true := by
      have := HA.out
      rw [← List.take_append_drop i s.data.toList, Hb.areSigns_append] at this
      simp at this
      exact this.1
    have hlen : (s.data.toList.take i).length = i := by simp; omega
    have hb := Hb.csum_bounds hA 0 (by omega)
    rw [hlen] at hb
    by_cases hlt : i < s.size
    · have hv := Hb.areSigns_mem HA.out (show s[i] ∈ s.data.toList by show s.data[i] ∈ _; simp)
      have hv1 := Hb.val_lt s[i]
      have ht : Hid (Hb.csum (s.data.toList.take (i + 1)) 0 = Hb.csum (s.data.toList.take i) 0 + ((i : Int) + 1) * Hb.val s[i]) := by
        show _ = _
        rw [take_snoc s i hlt, Hb.csum_snoc, hlen]
      have hm1 : 0 ≤ ((i : Int) + 1) * Hb.val s[i] := Int.mul_nonneg (by omega) hv
      have hm2 : ((i : Int) + 1) * Hb.val s[i] ≤ 1001 * 31 := Int.mul_le_mul (by omega) (by omega) hv (by omega)
      clear hA hlen
      go_wp2_with fail
      refine (index_sign s[i] _).mono ?_
      rintro e w' ⟨rfl, rfl⟩
      go_wp2_with fail
      go_round
      case rel => exact ⟨i + 1, by omega, by go_num, by rw [ht.out]⟩
      case measure => simp [intOf]; omega
    · clear hA hlen
      go_wp2_with fail
      go_ret
      refine ⟨ret_int ?_, rfl⟩
      rw [List.take_of_length_le (by simp; omega)]

/-- A body with a sign more. -/
def snoc (s : ByteArray) (k : Nat) : ByteArray := ⟨(s.data.toList ++ [Hb.sg k]).toArray⟩

theorem bytes_ext {a b : ByteArray} (h : a.data.toList = b.data.toList) : a = b := by
  cases a; cases b; simp at h; simp [h]
theorem sign_cut : ∀ i : Fin 31, (ByteArray.extract ⟨#[48, 49, 50, 51, 52, 53, 54, 55, 56, 57, 65, 66, 67, 68, 69, 70, 71, 72, 74, 75, 77, 78, 80, 81, 82, 84, 85, 86, 87, 88, 89]⟩ i.val (i.val + 1)).data.toList = [Hb.sg i.val] := by decide +kernel
theorem snoc_eq (s : ByteArray) (i : Nat) (h : i < 31) :
    s ++ ByteArray.extract ⟨#[48, 49, 50, 51, 52, 53, 54, 55, 56, 57, 65, 66, 67, 68, 69, 70, 71, 72, 74, 75, 77, 78, 80, 81, 82, 84, 85, 86, 87, 88, 89]⟩ i (i + 1) = snoc s i := by
  apply bytes_ext
  rw [ByteArray.data_append, Array.toList_append, sign_cut ⟨i, h⟩]
  simp [snoc]
theorem snoc_list (s : ByteArray) (i : Nat) : (snoc s i).data.toList = s.data.toList ++ [Hb.sg i] := by simp [snoc]
theorem snoc_size (s : ByteArray) (i : Nat) : (snoc s i).size = s.size + 1 := by
  show (snoc s i).data.size = s.data.size + 1
  simp [snoc]
theorem sign_is : ∀ i : Fin 31, Hb.areSigns [Hb.sg i.val] = true := by decide +kernel

set_option maxHeartbeats 400000 in
theorem seal_any (s : ByteArray) (w : World) (hs : s.size ≤ 23) (ha : Hb.areSigns s.data.toList = true) :
    Calls Tryz.prog 66 #[.string s] w fun e w' => (∃ k, k < 31 ∧ Hb.csum (s.data.toList ++ [Hb.sg k]) 0 % 31 = 0 ∧ e = .returned (.string (snoc s k))) ∧ w = w' := by
  obtain ⟨k0, hk0, hk1⟩ := Hb.sealed (l := s.data.toList) (by simpa using hs)
  have HA := Lib.hid ha
  have HK := Lib.hid hk1
  clear ha hk1
  go_enter Tryz.func66, Tryz.ntmps66
  go_wp2_with fail
  go_loop [5] (fun t => ∃ i : Nat, i ≤ k0 ∧ t = .int .i64 i) (fun t => 31 - (intOf t).toNat)
  case atStart => exact ⟨0, by omega, rfl⟩
  case round =>
    obtain ⟨i, hi, rfl⟩ := hrel
    have hi31 : i < 31 := by omega
    go_wp2_with fail
    rw [snoc_eq s i hi31]
    have hsg : Hb.areSigns (snoc s i).data.toList = true := by
      rw [snoc_list, Hb.areSigns_append, HA.out, sign_is ⟨i, hi31⟩]; rfl
    refine (osum_any (snoc s i) _ (by rw [snoc_size]; omega) hsg).mono ?_
    clear hsg
    rintro e w' ⟨rfl, rfl⟩
    rw [snoc_list]
    by_cases hz : Hb.csum (s.data.toList ++ [Hb.sg i]) 0 % 31 = 0
    · have hz' : (Hb.csum (s.data.toList ++ [Hb.sg i]) 0 % 31 == 0) = true := beq_iff_eq.2 hz
      have HZ := Lib.hid hz
      clear hz
      go_wp2_with fail
      go_ret
      exact ⟨⟨i, hi31, HZ.out, rfl⟩, rfl⟩
    · have hz' : (Hb.csum (s.data.toList ++ [Hb.sg i]) 0 % 31 == 0) = false := beq_eq_false_iff_ne.2 hz
      have hlt : i < k0 := by
        rcases Nat.lt_or_ge i k0 with h | h
        · exact h
        · obtain rfl : i = k0 := by omega
          exact absurd HK.out hz
      clear hz
      go_wp2_with fail
      go_round
      case rel => exact ⟨i + 1, by omega, by go_num⟩
      case measure => simp [intOf]; omega

/-- What Seal answers: the code, and the error. -/
def SealPost (s : ByteArray) (e : Ending) : Prop :=
  ((¬ (3 ≤ s.size ∧ s.size ≤ 23) ∨ Hb.areSigns s.data.toList = false) ∧ ∃ n : Int, n ≠ 0 ∧ e = .returned (.tuple #[.string ⟨#[]⟩, .int .i64 n])) ∨
  (3 ≤ s.size ∧ s.size ≤ 23 ∧ Hb.areSigns s.data.toList = true ∧ ∃ k, k < 31 ∧ Hb.csum (s.data.toList ++ [Hb.sg k]) 0 % 31 = 0 ∧ e = .returned (.tuple #[.string (snoc s k), .int .i64 0]))

set_option maxHeartbeats 400000 in
theorem Seal_any (s : ByteArray) (w : World) (hs : s.size ≤ 1000) :
    Calls Tryz.prog 33 #[.string s] w fun e w' => SealPost s e ∧ w = w' := by
  by_cases h1 : 3 ≤ s.size ∧ s.size ≤ 23
  · have h2 : (decide ((3 : Int) ≤ (s.size : Int)) && decide ((s.size : Int) ≤ 23)) = true := by simp; omega
    cases h3 : Hb.areSigns s.data.toList with
    | false =>
      go_enter Tryz.func33, Tryz.ntmps33
      go_wp2_with fail
      refine (owithin_any _ _ _ _).mono ?_
      rintro e w' ⟨rfl, rfl⟩
      rw [h2]
      go_wp2_with fail
      refine (areSigns_any s _ hs).mono ?_
      rintro e w' ⟨rfl, rfl⟩
      rw [h3]
      go_wp2_with fail
      go_ret2
      exact ⟨.inl ⟨.inr h3, 3, by omega, rfl⟩, rfl⟩
    | true =>
      go_enter Tryz.func33, Tryz.ntmps33
      go_wp2_with fail
      refine (owithin_any _ _ _ _).mono ?_
      rintro e w' ⟨rfl, rfl⟩
      rw [h2]
      go_wp2_with fail
      refine (areSigns_any s _ hs).mono ?_
      rintro e w' ⟨rfl, rfl⟩
      rw [h3]
      go_wp2_with fail
      refine (seal_any s _ h1.2 h3).mono ?_
      rintro e w' ⟨⟨k, hk, hk1, rfl⟩, rfl⟩
      have HK := Lib.hid hk1
      clear hk1
      go_wp2_with fail
      go_ret2
      exact ⟨.inr ⟨h1.1, h1.2, h3, k, hk, HK.out, rfl⟩, rfl⟩
  · have h2 : (decide ((3 : Int) ≤ (s.size : Int)) && decide ((s.size : Int) ≤ 23)) = false := by simp; omega
    go_enter Tryz.func33, Tryz.ntmps33
    go_wp2_with fail
    refine (owithin_any _ _ _ _).mono ?_
    rintro e w' ⟨rfl, rfl⟩
    rw [h2]
    go_wp2_with fail
    go_ret2
    exact ⟨.inl ⟨.inl h1, 2, by omega, rfl⟩, rfl⟩
end Go.Proofs.YtihcmifikbkbcaaGreat

/- The package offer is there: it seals a code. -/
namespace Go.Proofs.YtihcmifikbkbcaaGreat
set_option linter.unusedVariables false
open Go.RowKit

theorem seal123 : ∀ k : Fin 31, Hb.csum ([49, 50, 51] ++ [Hb.sg k.val]) 0 % 31 = 0 → Hb.sg k.val = 67 := by decide +kernel

set_option maxHeartbeats 400000 in
theorem offers_any (w : World) : Calls Tryz.prog 10 #[] w fun e w' => e = .returned (.bool true) ∧ w = w' := by
  go_enter Tryz.func10, Tryz.ntmps10
  go_wp2_with fail
  refine (Seal_any ⟨#[49, 50, 51]⟩ _ (by decide)).mono ?_
  rintro e w' ⟨hp, rfl⟩
  have hx : e = .returned (.tuple #[.string ⟨#[49, 50, 51, 67]⟩, .int .i64 0]) := by
    rcases hp with ⟨hno, n, hn, he⟩ | ⟨_, _, _, k, hk, hk1, he⟩
    · exact absurd hno (by decide +kernel)
    · rw [he]
      have : snoc ⟨#[49, 50, 51]⟩ k = ⟨#[49, 50, 51, 67]⟩ := by
        apply bytes_ext
        rw [snoc_list, seal123 ⟨k, hk⟩ hk1]
        rfl
      rw [this]
  subst hx
  go_wp2_with fail
  go_ret
  exact ⟨rfl, rfl⟩
end Go.Proofs.YtihcmifikbkbcaaGreat
