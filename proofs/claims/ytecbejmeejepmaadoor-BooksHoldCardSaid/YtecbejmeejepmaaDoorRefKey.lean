/- Keys, as the document's answer has them: handref2.Key says what person.IsKey says. -/
import Derived.Test.YtecbejmeejepmaaDoorKey
import Derived.Test.YtecbejmeejepmaaDoorShelf
import Derived.Shelf.Strings.SlTrimAscii
namespace Go.Proofs.YtecbejmeejepmaaDoor
set_option linter.unusedVariables false
open Go.RowKit

theorem dropWhile_nil {p : UInt8 → Bool} {l : List UInt8} : l.dropWhile p = [] ↔ l.all p = true := by
  induction l with
  | nil => simp
  | cons a l ih => by_cases h : p a = true <;> simp [h, ih]
theorem trimS_nil (l cs : List UInt8) : Lib.trimS l cs = [] ↔ l.all (cs.contains ·) = true := by
  unfold Lib.trimS Lib.trimLeftS Lib.trimRightS
  rw [dropWhile_nil, List.all_reverse]
  constructor
  · intro h
    have h1 : l.reverse.dropWhile (cs.contains ·) = [] := by
      cases e : l.reverse.dropWhile (cs.contains ·) with
      | nil => rfl
      | cons a t =>
        rw [e] at h
        have h2 := List.head?_dropWhile_not (cs.contains ·) l.reverse
        rw [e] at h2
        simp at h2 h
        exact absurd h.1 h2
    rw [dropWhile_nil, List.all_reverse] at h1
    exact h1
  · intro h
    have h1 : l.reverse.dropWhile (cs.contains ·) = [] := by rw [dropWhile_nil, List.all_reverse]; exact h
    rw [h1]
    rfl
def smalls : ByteArray := ⟨#[97, 98, 99, 100, 101, 102, 103, 104, 105, 106, 107, 108, 109, 110, 111, 112, 113, 114, 115, 116, 117, 118, 119, 120, 121, 122]⟩
def keySigns : ByteArray := ⟨#[97, 98, 99, 100, 101, 102, 103, 104, 105, 106, 107, 108, 109, 110, 111, 112, 113, 114, 115, 116, 117, 118, 119, 120, 121, 122, 48, 49, 50, 51, 52, 53, 54, 55, 56, 57, 45, 95]⟩
theorem small_in (c : UInt8) : smalls.data.toList.contains c = smallB c := by
  have : ∀ n : Fin 256, smalls.data.toList.contains (UInt8.ofNat n.val) = smallB (UInt8.ofNat n.val) := by decide +kernel
  have h := this ⟨c.toNat, c.toNat_lt⟩
  simpa using h
theorem key_in (c : UInt8) : keySigns.data.toList.contains c = keyC c := by
  have : ∀ n : Fin 256, keySigns.data.toList.contains (UInt8.ofNat n.val) = keyC (UInt8.ofNat n.val) := by decide +kernel
  have h := this ⟨c.toNat, c.toNat_lt⟩
  simpa using h

set_option maxHeartbeats 400000 in
theorem in_any (n l h : Int) (w : World) : Calls Tryd.prog 75 #[.int .i64 n, .int .i64 l, .int .i64 h] w fun e w' => e = .returned (.bool (decide (l ≤ n) && decide (n ≤ h))) ∧ w = w' := by
  by_cases h1 : l ≤ n
  · go_enter Tryd.func75, Tryd.ntmps75
    go_wp2
    go_ret
    exact ⟨by simp [h1], rfl⟩
  · go_enter Tryd.func75, Tryd.ntmps75
    go_wp2
    go_ret
    exact ⟨by simp; omega, rfl⟩
def onlyB (s cut : ByteArray) : Bool := s.data.toList.all (cut.data.toList.contains ·)
set_option maxHeartbeats 400000 in
theorem only_any (s cut : ByteArray) (w : World) (hs : s.size ≤ 1000000000) (hcs : cut.size < 1000) (hascii : ∀ (j : Nat) b, cut.data.toList[j]? = some b → b.toNat < 128) :
    Calls Tryd.prog 76 #[.string s, .string cut] w fun e w' => e = .returned (.bool (onlyB s cut)) ∧ Below w.heap.size w w' := by
  have HT := Lib.hid (Any.strings_Trim_laid Tryd.lays160 (by kernel_rfl) s cut w (by omega) (by omega) hascii)
  have hv : Hid ((ByteArray.mk (Lib.trimS s.data.toList cut.data.toList).toArray).toList = [] ↔ onlyB s cut = true) := by
    show _ ↔ _
    rw [ByteArray.toList_eq]
    exact trimS_nil _ _
  clear hascii
  go_enter Tryd.func76, Tryd.ntmps76
  go_wp2_with fail
  refine HT.out.mono ?_
  rintro e w1 ⟨rfl, hb⟩
  generalize ByteArray.mk (Lib.trimS s.data.toList cut.data.toList).toArray = X at hv
  have HB := Lib.hid hb
  clear hb HT
  by_cases hX : X.toList = []
  · have h1 : X.toList.isEmpty = true := by rw [hX]; rfl
    have hr := Lib.hid (hv.out.1 hX)
    have HX := Lib.hid hX
    clear hX
    go_wp2_with fail
    go_ret
    exact ⟨ret_bool' hr.out.symm, HB.out⟩
  · have h1 : X.toList.isEmpty = false := by cases e : X.toList with | nil => exact absurd e hX | cons a l => rfl
    have hr : Hid (onlyB s cut = false) := by
      show _ = _
      cases e : onlyB s cut with
      | false => rfl
      | true => exact absurd (hv.out.2 e) hX
    clear hX
    go_wp2_with fail
    go_ret
    exact ⟨ret_bool' hr.out.symm, HB.out⟩
theorem ascii_of (cut : ByteArray) (h : (cut.data.toList.all fun b => decide (b.toNat < 128)) = true) : ∀ (j : Nat) b, cut.data.toList[j]? = some b → b.toNat < 128 := fun j b hb => by
  have := List.all_eq_true.1 h b (List.mem_of_getElem? hb)
  simpa using this
set_option maxHeartbeats 1000000 in
theorem Key_any (s : ByteArray) (w : World) (hs : s.size ≤ 1000000000) :
    Calls Tryd.prog 69 #[.string s] w fun e w' => e = .returned (.bool (isKey s)) ∧ Below w.heap.size w w' := by
  by_cases h1 : 1 ≤ s.size ∧ s.size ≤ 40
  · have h2 : (decide ((1 : Int) ≤ (s.size : Int)) && decide ((s.size : Int) ≤ 40)) = true := by simp; omega
    have h0 : 0 < s.size := by omega
    have H2 := Lib.hid h2
    have hh : Hid (isKey s = (onlyB (s.extract 0 1) smalls && onlyB s keySigns)) := by
      show _ = _
      have e1 : s.data.toList.head? = some s[0] := by
        rw [List.head?_eq_getElem?, List.getElem?_eq_getElem (by simpa using h0)]; rfl
      have e2 : (s.extract 0 1).data.toList = [s[0]] := by
        rw [ByteArray.data_extract]
        have : s.data.toList.length = s.size := by simp
        simp [Array.toList_extract, List.take_one, e1]
      unfold isKey onlyB
      rw [e1, e2, decide_eq_true h1]
      simp only [List.all_cons, List.all_nil, Bool.and_true, Option.map_some, Option.getD_some, Bool.true_and, small_in]
      congr 1
      unfold allB
      apply List.all_congr rfl
      intro c
      exact (key_in c).symm
    have hsz1 : (s.extract 0 1).size ≤ 1000000000 := by simp; omega
    clear h2
    go_enter Tryd.func69, Tryd.ntmps69
    go_wp2_with fail
    refine (in_any _ _ _ _).mono ?_
    rintro e w' ⟨rfl, rfl⟩
    rw [H2.out]
    go_wp2_with fail
    refine (only_any (s.extract 0 1) _ w hsz1 (by decide) (ascii_of _ (by decide))).mono ?_
    rintro e w1 ⟨rfl, hb1⟩
    have HB1 := Lib.hid hb1
    clear hb1
    generalize hq : onlyB (s.extract 0 1) _ = q
    have hq' : Hid (isKey s = (q && onlyB s keySigns)) := by rw [← hq]; exact hh
    clear hq hh
    cases q with
    | false =>
      go_wp2_with fail
      go_ret
      exact ⟨ret_bool' (hq'.out.trans (Bool.false_and _)).symm, HB1.out⟩
    | true =>
      go_wp2_with fail
      refine (only_any s _ w1 hs (by decide) (ascii_of _ (by decide))).mono ?_
      rintro e w2 ⟨rfl, hb2⟩
      have HB2 := Lib.hid (HB1.out.trans (hb2.mono HB1.out.size))
      clear hb2
      generalize hp : onlyB s _ = p
      have hp' : Hid (isKey s = p) := by show _ = _; rw [← hp, hq'.out, Bool.true_and]; rfl
      clear hp hq'
      go_wp2_with fail
      go_ret
      exact ⟨ret_bool' hp'.out.symm, HB2.out⟩
  · have h2 : (decide ((1 : Int) ≤ (s.size : Int)) && decide ((s.size : Int) ≤ 40)) = false := by simp; omega
    have H2 := Lib.hid h2
    have hh : Hid (isKey s = false) := by show _ = _; unfold isKey; rw [decide_eq_false h1]; rfl
    clear h2
    go_enter Tryd.func69, Tryd.ntmps69
    go_wp2_with fail
    refine (in_any _ _ _ _).mono ?_
    rintro e w' ⟨rfl, rfl⟩
    rw [H2.out]
    go_wp2_with fail
    go_ret
    exact ⟨ret_bool' hh.out.symm, Below.refl _ _⟩
end Go.Proofs.YtecbejmeejepmaaDoor
