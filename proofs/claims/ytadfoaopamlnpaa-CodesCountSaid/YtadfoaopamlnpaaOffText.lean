/- Codes of package offer: CheckCode, WriteCode, ReadCode, offers. -/
import Derived.Test.YtadfoaopamlnpaaOffCode
import Derived.Test.YtadfoaopamlnpaaApp
namespace Go.Proofs.Ytadfoaopamlnpaa
set_option linter.unusedVariables false
open Go.RowKit

/-- What CheckCode answers. -/
def codeErr (s : ByteArray) : Int :=
  if ¬ (4 ≤ s.size ∧ s.size ≤ 24) then 2 else if Hb.areSigns s.data.toList = false then 3 else if Hb.csum s.data.toList 0 % 31 ≠ 0 then 15 else 0

theorem codeErr_ok {s : ByteArray} (h1 : 4 ≤ s.size) (h2 : s.size ≤ 24) (h3 : Hb.areSigns s.data.toList = true) (h4 : Hb.csum s.data.toList 0 % 31 = 0) : codeErr s = 0 := by
  unfold codeErr; simp [h1, h2, h3, h4]
theorem codeErr_sum {s : ByteArray} (h1 : 4 ≤ s.size) (h2 : s.size ≤ 24) (h3 : Hb.areSigns s.data.toList = true) (h4 : Hb.csum s.data.toList 0 % 31 ≠ 0) : codeErr s = 15 := by
  unfold codeErr; simp [h1, h2, h3, h4]

set_option maxHeartbeats 400000 in
theorem checkCode_any (s : ByteArray) (w : World) (hs : s.size ≤ 1000) :
    Calls Try.prog 16 #[.string s] w fun e w' => e = .returned (.int .i64 (codeErr s)) ∧ w = w' := by
  by_cases h1 : 4 ≤ s.size ∧ s.size ≤ 24
  · have h2 : (decide ((4 : Int) ≤ (s.size : Int)) && decide ((s.size : Int) ≤ 24)) = true := by simp; omega
    cases h3 : Hb.areSigns s.data.toList with
    | false =>
      have hc := Lib.hid (show codeErr s = 3 by unfold codeErr; simp [h1, h3])
      go_enter Try.func16, Try.ntmps16
      go_wp2_with fail
      refine (owithin_any _ _ _ _).mono ?_
      rintro e w' ⟨rfl, rfl⟩
      rw [h2]
      go_wp2_with fail
      refine (areSigns_any s _ hs).mono ?_
      rintro e w' ⟨rfl, rfl⟩
      rw [h3]
      go_wp2_with fail
      go_ret
      exact ⟨ret_int hc.out.symm, rfl⟩
    | true =>
      by_cases h4 : Hb.csum s.data.toList 0 % 31 = 0
      · have hc := Lib.hid (codeErr_ok h1.1 h1.2 h3 h4)
        have hb : (Hb.csum s.data.toList 0 % 31 != 0) = false := by simp [h4]
        clear h4
        go_enter Try.func16, Try.ntmps16
        go_wp2_with fail
        refine (owithin_any _ _ _ _).mono ?_
        rintro e w' ⟨rfl, rfl⟩
        rw [h2]
        go_wp2_with fail
        refine (areSigns_any s _ hs).mono ?_
        rintro e w' ⟨rfl, rfl⟩
        rw [h3]
        go_wp2_with fail
        refine (osum_any s _ hs h3).mono ?_
        rintro e w' ⟨rfl, rfl⟩
        go_wp2_with fail
        go_ret
        exact ⟨ret_int hc.out.symm, rfl⟩
      · have hc := Lib.hid (codeErr_sum h1.1 h1.2 h3 h4)
        have hb : (Hb.csum s.data.toList 0 % 31 != 0) = true := by simp [h4]
        clear h4
        go_enter Try.func16, Try.ntmps16
        go_wp2_with fail
        refine (owithin_any _ _ _ _).mono ?_
        rintro e w' ⟨rfl, rfl⟩
        rw [h2]
        go_wp2_with fail
        refine (areSigns_any s _ hs).mono ?_
        rintro e w' ⟨rfl, rfl⟩
        rw [h3]
        go_wp2_with fail
        refine (osum_any s _ hs h3).mono ?_
        rintro e w' ⟨rfl, rfl⟩
        go_wp2_with fail
        go_ret
        exact ⟨ret_int hc.out.symm, rfl⟩
  · have h2 : (decide ((4 : Int) ≤ (s.size : Int)) && decide ((s.size : Int) ≤ 24)) = false := by simp; omega
    have hc := Lib.hid (show codeErr s = 2 by unfold codeErr; rw [if_pos h1])
    go_enter Try.func16, Try.ntmps16
    go_wp2_with fail
    refine (owithin_any _ _ _ _).mono ?_
    rintro e w' ⟨rfl, rfl⟩
    rw [h2]
    go_wp2_with fail
    go_ret
    exact ⟨ret_int hc.out.symm, rfl⟩

theorem infoString : (Try.prog.info? 9).map (fun i => (i.zero, i.size, i.bytes)) = some (some (.string ⟨#[]⟩), 1, 16) := by kernel_rfl

theorem drop4 (s : ByteArray) (h : 4 ≤ s.size) : (s.extract 0 4).data.toList ++ (s.extract 4 s.size).data.toList = s.data.toList := by
  simp [ByteArray.data_extract, Array.toList_extract]
  have : s.data.toList.length = s.size := by simp
  rw [List.take_of_length_le (l := s.data.toList.drop 4) (by simp)]
  exact List.take_append_drop 4 _

theorem joinTail_len (l : List (List UInt8)) (sep : List UInt8) : (Lib.joinTail sep l).length ≤ l.flatten.length + l.length * sep.length := by
  induction l with
  | nil => simp [Lib.joinTail]
  | cons a l ih =>
    simp only [Lib.joinTail, List.map_cons, List.flatten_cons, List.length_append, List.length_cons] at ih ⊢
    rw [Nat.succ_mul]
    omega
theorem join_len (l : List (List UInt8)) (sep : List UInt8) : (Lib.join l sep).length ≤ l.flatten.length + l.length * sep.length := by
  cases l with
  | nil => simp [Lib.join_nil]
  | cons a l =>
    rw [Lib.join_cons]
    have := joinTail_len l sep
    simp only [List.length_append, List.flatten_cons, List.length_cons, Nat.succ_mul]
    omega

set_option maxHeartbeats 1000000 in
set_option maxRecDepth 100000 in
theorem writeCode_any (s : ByteArray) (w : World) (h1 : 4 ≤ s.size) (h2 : s.size ≤ 24) (hc : codeErr s = 0) :
    Calls Try.prog 17 #[.string s] w fun e w' =>
      (∃ xs : List ByteArray, xs.length ≤ 25 ∧ (xs.map (·.data.toList)).flatten = s.data.toList ∧ e = .returned (.tuple #[.string ⟨(Lib.join (xs.map (·.data.toList)) [45]).toArray⟩, .int .i64 0])) ∧ Below w.heap.size w w' := by
  obtain ⟨i0, hi, hz0, hz1, hz2⟩ := info_parts infoString
  have HC := Lib.hid hc
  clear hc
  go_enter Try.func17, Try.ntmps17
  go_wp2_with fail
  refine (checkCode_any s _ (by omega)).mono ?_
  rintro e w' ⟨rfl, rfl⟩
  rw [HC.out]
  go_wp2_with fail
  go_loopw [0, 5] (fun c v wr => ∃ (r : ByteArray) (xs : List ByteArray), c = .string r ∧ r.size ≤ 24 ∧ 4 * xs.length + r.size ≤ 24 ∧ wr.ownsRow w.heap.size 9 1 v xs.length (xs.map Value.string) ∧ Hid ((xs.map (·.data.toList)).flatten ++ r.data.toList = s.data.toList) ∧ Below w.heap.size w wr)
    (fun c _ _ => match c with | .string r => r.size | _ => 0)
  case atStart => exact ⟨s, [], rfl, h2, by simpa using h2, World.ownsRow_nil _ _ _ _, by simp [Hid], Below.refl _ _⟩
  case round =>
    obtain ⟨r, xs, rfl, hr, hx, hown, hf, hb⟩ := hrel
    by_cases hlt : 4 < r.size
    · have hd := Lib.hid (drop4 r (by omega))
      have hsz : (r.extract 4 r.size).size = r.size - 4 := by simp
      go_wp2_with (first | (at_builtin; refine wpList_append1 rfl _ _ 42 rfl w.heap.size 9 i0 (.string ⟨#[]⟩) 1 16 Try.underlying42 hi hz0 hz1 hz2 rfl (by decide) _ _ _ rfl hown #[.string (r.extract 0 4)] 9 rfl rfl (by simp [Value.oneCell']) (by omega) (by omega) hb.size ?_; intro v' w' hown' hg' hb'))
      go_roundw
      case rel =>
        refine ⟨_, xs ++ [r.extract 0 4], rfl, by omega, by simp; omega, ?_, ?_, hb.trans hb'⟩
        · simpa using hown'
        · show _ = _
          rw [← hf.out, ← hd.out]; simp
      case measure => simp; omega
    · go_wp2_with (first | (at_builtin; refine wpList_append1 rfl _ _ 42 rfl w.heap.size 9 i0 (.string ⟨#[]⟩) 1 16 Try.underlying42 hi hz0 hz1 hz2 rfl (by decide) _ _ _ rfl hown #[.string r] 9 rfl rfl (by simp [Value.oneCell']) (by omega) (by omega) hb.size ?_; intro v' w' hown' hg' hb'))
      have hlen : (xs ++ [r]).length = xs.length + 1 := by simp
      obtain ⟨g, cap, hv, hcap, hgl⟩ : ∃ g cap, v' = .slice (some ⟨g, 0, none⟩) (xs ++ [r]).length cap ∧ (xs ++ [r]).length ≤ cap ∧ g < w'.heap.size := by
        rcases hown'.2 with ⟨_, h0⟩ | ⟨g, cap, cur, hv, _, hh, hle, _⟩
        · omega
        · exact ⟨g, cap, by rw [hlen]; exact hv, by rw [hlen]; exact hle, lt_of_heap hh⟩
      have hcl : ∀ (j : Nat) x, (xs ++ [r])[j]? = some x → w'.cell? ⟨g, 0 + j, none⟩ = some (.string x) := by
        intro j x hj
        have := hown'.cells (g := g) (by rw [hv]; rfl) j (.string x) (by
          have e : (xs.map Value.string ++ #[Value.string r].toList) = (xs ++ [r]).map Value.string := by simp
          rw [e, List.getElem?_map, hj]; rfl)
        rw [Addr.add_lit] at this
        exact this
      have HCL := Lib.hid hcl
      have hfl : ((xs ++ [r]).map (·.data.toList)).flatten = s.data.toList := by rw [← hf.out]; simp
      have HFL := Lib.hid hfl
      have hll : xs.length ≤ 24 := by omega
      rw [hv]
      clear hcl hv hown' hg' hfl hown
      refine (Try.strings_Join g 0 cap (xs ++ [r]) ⟨#[45]⟩ w' HCL.out hgl (by omega) hcap ?_).mono ?_
      · have := join_len ((xs ++ [r]).map (·.data.toList)) [45]
        rw [HFL.out] at this
        simp at this ⊢
        have e : s.data.size = s.size := rfl
        omega
      · rintro e w1 ⟨rfl, hb1⟩
        generalize hJ : Lib.join ((xs ++ [r]).map (·.data.toList)) (ByteArray.data ⟨#[45]⟩).toList = J
        have HJ := Lib.hid hJ
        clear hJ
        have HB := Lib.hid (hb.trans (hb'.trans (hb1.mono (Nat.le_trans hb.size (by have := hb'.size; omega)))))
        clear hb hb' hb1
        go_wp2_with fail
        go_ret2
        exact ⟨⟨xs ++ [r], by omega, HFL.out, by rw [← HJ.out]; rfl⟩, HB.out⟩
end Go.Proofs.Ytadfoaopamlnpaa
