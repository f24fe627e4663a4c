/- Texts of this claim, put together: IdxSe, IdxGa, RefKey, Faults. -/
import Derived.Test.YtihcmifikbkbcaaGreatDoorQA
import Derived.StillTailTactics
import Derived.Deep.Cut
import Derived.Test.YtihcmifikbkbcaaGreatDoorShelf
import Derived.Shelf.Strings.SlTrimAscii
import Derived.Test.YtihcmifikbkbcaaGreatDoorQB
import Derived.Deep.QuietTactic
/- IndexFunc and ContainsFunc at elements of 4 cells. -/
namespace Go.Proofs.YtihcmifikbkbcaaGreatDoor
set_option linter.unusedVariables false
open Go.RowKit

section
variable {D : Type}
set_option maxHeartbeats 1000000 in
theorem indexFunc_Se (H : Frz) (f : D → Nat → Value) (kf : Nat) (caps : List Value) (p : D → Bool) (ds : List D) (hp : ∀ (W : World) (d : D), d ∈ ds → H.In W → Calls Tryz.prog kf ((.agg #[f d 0, f d 1, f d 2, f d 3] : Value) :: caps).toArray W fun e W' => e = .returned (.bool (p d)) ∧ Below W.heap.size W W')
    (hcall : ∀ (a : Value) (W : World), (callFunc kf (a :: caps).toArray).run Tryz.prog W = .ok (.enter kf (a :: caps).toArray) W)
    (A : Option Addr) (cap : Nat) (w : World) (hH : H.In w) (hR : Rw H A 4 f ds) (hl : ds.length ≤ 1000000) :
    Calls Tryz.prog 41 #[.slice A ds.length cap, .func (.func kf) #[] caps.toArray] w fun e w' => e = .returned (.int .i64 (idxF p ds)) ∧ Below w.heap.size w w' := by
  have HP := Lib.hid hp
  have HR := Lib.hid hR
  have HH := Lib.hid hH
  clear hp hR hH
  go_enter Tryz.func41, Tryz.ntmps41
  go_wp2_with fail
  go_loopw [5, 8] (fun _ t wr => ∃ i : Nat, i ≤ ds.length ∧ t = .int .i64 i ∧ Hid ((ds.take i).any p = false) ∧ Hid (Below w.heap.size w wr)) (fun _ t _ => ds.length - (intOf t).toNat)
  case atStart => exact ⟨0, by omega, rfl, rfl, Below.refl _ _⟩
  case round =>
    obtain ⟨i, hi, rfl, hall, hb⟩ := hrel
    by_cases hlt : i < ds.length
    · obtain ⟨b, off, rfl, hbl, hc⟩ := HR.out.at_ (HH.out.below hb.out) hlt (by omega)
      have c0 : wr.cell? ⟨b, off + i * 4, none⟩ = some (f ds[i] 0) := hc 0 (by omega)
      have c1 : wr.cell? ⟨b, off + i * 4 + 1, none⟩ = some (f ds[i] 1) := hc 1 (by omega)
      have c2 : wr.cell? ⟨b, off + i * 4 + 2, none⟩ = some (f ds[i] 2) := hc 2 (by omega)
      have c3 : wr.cell? ⟨b, off + i * 4 + 3, none⟩ = some (f ds[i] 3) := hc 3 (by omega)
      have HC := Lib.hid (fun W hW => HP.out W ds[i] (List.getElem_mem hlt) hW)
      have ht := Lib.hid (idxF_found (p := p) hlt hall.out)
      have ht2 := Lib.hid (any_take_succ (p := p) hlt hall.out)
      clear hc
      generalize hpd : p ds[i] = q at HC ht ht2
      generalize f ds[i] 0 = x0 at c0 HC
      generalize f ds[i] 1 = x1 at c1 HC
      generalize f ds[i] 2 = x2 at c2 HC
      generalize f ds[i] 3 = x3 at c3 HC
      clear hpd
      go_wp2_with fail
      refine (HC.out _ (HH.out.below hb.out)).mono ?_
      rintro e w1 ⟨rfl, hb1⟩
      have hb2 := Lib.hid (hb.out.trans (hb1.mono hb.out.size))
      clear hb1 hb
      cases q with
      | true =>
        go_wp2_with fail
        go_ret
        exact ⟨ret_int (ht.out (by simp)).symm, hb2.out⟩
      | false =>
        go_wp2_with fail
        go_roundw
        case rel => exact ⟨i + 1, by omega, by go_num, ht2.out (by simp), hb2⟩
        case measure => simp [intOf]; omega
    · have hf := Lib.hid (idxF_none (p := p) (show ds.any p = false by have := hall.out; rwa [List.take_of_length_le (by omega)] at this))
      go_wp2_with fail
      go_ret
      exact ⟨ret_int hf.out.symm, hb.out⟩
set_option maxHeartbeats 1000000 in
theorem containsFunc_Se (H : Frz) (f : D → Nat → Value) (kf : Nat) (caps : List Value) (p : D → Bool) (ds : List D) (hp : ∀ (W : World) (d : D), d ∈ ds → H.In W → Calls Tryz.prog kf ((.agg #[f d 0, f d 1, f d 2, f d 3] : Value) :: caps).toArray W fun e W' => e = .returned (.bool (p d)) ∧ Below W.heap.size W W')
    (hcall : ∀ (a : Value) (W : World), (callFunc kf (a :: caps).toArray).run Tryz.prog W = .ok (.enter kf (a :: caps).toArray) W)
    (A : Option Addr) (cap : Nat) (w : World) (hH : H.In w) (hR : Rw H A 4 f ds) (hl : ds.length ≤ 1000000) :
    Calls Tryz.prog 25 #[.slice A ds.length cap, .func (.func kf) #[] caps.toArray] w fun e w' => e = .returned (.bool (anyF p ds)) ∧ Below w.heap.size w w' := by
  have HI := Lib.hid (indexFunc_Se H f kf caps p ds hp hcall A cap w hH hR hl)
  have hx := Lib.hid (idxF_any p ds)
  clear hp hR hH hcall
  go_enter Tryz.func25, Tryz.ntmps25
  go_wp2_with fail
  refine HI.out.mono ?_
  rintro e w1 ⟨rfl, hb⟩
  generalize idxF p ds = n at hx
  have HB := Lib.hid hb
  clear hb
  go_wp2_with fail
  go_ret
  exact ⟨ret_bool' hx.out, HB.out⟩
end
end Go.Proofs.YtihcmifikbkbcaaGreatDoor

/- IndexFunc and ContainsFunc at elements of 4 cells. -/
namespace Go.Proofs.YtihcmifikbkbcaaGreatDoor
set_option linter.unusedVariables false
open Go.RowKit

section
variable {D : Type}
set_option maxHeartbeats 1000000 in
theorem indexFunc_Ga (H : Frz) (f : D → Nat → Value) (kf : Nat) (caps : List Value) (p : D → Bool) (ds : List D) (hp : ∀ (W : World) (d : D), d ∈ ds → H.In W → Calls Tryz.prog kf ((.agg #[f d 0, f d 1, f d 2, f d 3] : Value) :: caps).toArray W fun e W' => e = .returned (.bool (p d)) ∧ Below W.heap.size W W')
    (hcall : ∀ (a : Value) (W : World), (callFunc kf (a :: caps).toArray).run Tryz.prog W = .ok (.enter kf (a :: caps).toArray) W)
    (A : Option Addr) (cap : Nat) (w : World) (hH : H.In w) (hR : Rw H A 4 f ds) (hl : ds.length ≤ 1000000) :
    Calls Tryz.prog 42 #[.slice A ds.length cap, .func (.func kf) #[] caps.toArray] w fun e w' => e = .returned (.int .i64 (idxF p ds)) ∧ Below w.heap.size w w' := by
  have HP := Lib.hid hp
  have HR := Lib.hid hR
  have HH := Lib.hid hH
  clear hp hR hH
  go_enter Tryz.func42, Tryz.ntmps42
  go_wp2_with fail
  go_loopw [5, 8] (fun _ t wr => ∃ i : Nat, i ≤ ds.length ∧ t = .int .i64 i ∧ Hid ((ds.take i).any p = false) ∧ Hid (Below w.heap.size w wr)) (fun _ t _ => ds.length - (intOf t).toNat)
  case atStart => exact ⟨0, by omega, rfl, rfl, Below.refl _ _⟩
  case round =>
    obtain ⟨i, hi, rfl, hall, hb⟩ := hrel
    by_cases hlt : i < ds.length
    · obtain ⟨b, off, rfl, hbl, hc⟩ := HR.out.at_ (HH.out.below hb.out) hlt (by omega)
      have c0 : wr.cell? ⟨b, off + i * 4, none⟩ = some (f ds[i] 0) := hc 0 (by omega)
      have c1 : wr.cell? ⟨b, off + i * 4 + 1, none⟩ = some (f ds[i] 1) := hc 1 (by omega)
      have c2 : wr.cell? ⟨b, off + i * 4 + 2, none⟩ = some (f ds[i] 2) := hc 2 (by omega)
      have c3 : wr.cell? ⟨b, off + i * 4 + 3, none⟩ = some (f ds[i] 3) := hc 3 (by omega)
      have HC := Lib.hid (fun W hW => HP.out W ds[i] (List.getElem_mem hlt) hW)
      have ht := Lib.hid (idxF_found (p := p) hlt hall.out)
      have ht2 := Lib.hid (any_take_succ (p := p) hlt hall.out)
      clear hc
      generalize hpd : p ds[i] = q at HC ht ht2
      generalize f ds[i] 0 = x0 at c0 HC
      generalize f ds[i] 1 = x1 at c1 HC
      generalize f ds[i] 2 = x2 at c2 HC
      generalize f ds[i] 3 = x3 at c3 HC
      clear hpd
      go_wp2_with fail
      refine (HC.out _ (HH.out.below hb.out)).mono ?_
      rintro e w1 ⟨rfl, hb1⟩
      have hb2 := Lib.hid (hb.out.trans (hb1.mono hb.out.size))
      clear hb1 hb
      cases q with
      | true =>
        go_wp2_with fail
        go_ret
        exact ⟨ret_int (ht.out (by simp)).symm, hb2.out⟩
      | false =>
        go_wp2_with fail
        go_roundw
        case rel => exact ⟨i + 1, by omega, by go_num, ht2.out (by simp), hb2⟩
        case measure => simp [intOf]; omega
    · have hf := Lib.hid (idxF_none (p := p) (show ds.any p = false by have := hall.out; rwa [List.take_of_length_le (by omega)] at this))
      go_wp2_with fail
      go_ret
      exact ⟨ret_int hf.out.symm, hb.out⟩
set_option maxHeartbeats 1000000 in
theorem containsFunc_Ga (H : Frz) (f : D → Nat → Value) (kf : Nat) (caps : List Value) (p : D → Bool) (ds : List D) (hp : ∀ (W : World) (d : D), d ∈ ds → H.In W → Calls Tryz.prog kf ((.agg #[f d 0, f d 1, f d 2, f d 3] : Value) :: caps).toArray W fun e W' => e = .returned (.bool (p d)) ∧ Below W.heap.size W W')
    (hcall : ∀ (a : Value) (W : World), (callFunc kf (a :: caps).toArray).run Tryz.prog W = .ok (.enter kf (a :: caps).toArray) W)
    (A : Option Addr) (cap : Nat) (w : World) (hH : H.In w) (hR : Rw H A 4 f ds) (hl : ds.length ≤ 1000000) :
    Calls Tryz.prog 28 #[.slice A ds.length cap, .func (.func kf) #[] caps.toArray] w fun e w' => e = .returned (.bool (anyF p ds)) ∧ Below w.heap.size w w' := by
  have HI := Lib.hid (indexFunc_Ga H f kf caps p ds hp hcall A cap w hH hR hl)
  have hx := Lib.hid (idxF_any p ds)
  clear hp hR hH hcall
  go_enter Tryz.func28, Tryz.ntmps28
  go_wp2_with fail
  refine HI.out.mono ?_
  rintro e w1 ⟨rfl, hb⟩
  generalize idxF p ds = n at hx
  have HB := Lib.hid hb
  clear hb
  go_wp2_with fail
  go_ret
  exact ⟨ret_bool' hx.out, HB.out⟩
end
end Go.Proofs.YtihcmifikbkbcaaGreatDoor

/- Keys, as the document's answer has them: handref2.Key says what person.IsKey says. -/
namespace Go.Proofs.YtihcmifikbkbcaaGreatDoor
set_option linter.unusedVariables false
open Go.RowKit

theorem dropWhile_nil {p : UInt8 → Bool} {l : List UInt8} : l.dropWhile p = [] ↔ l.all p = true := by
  induction l with
  | nil => simp
  | cons a l ih => by_cases h : p a = true <;> simp [h, ih]
theorem trimS_nil (l cs : List UInt8) : Lib.trimS l cs = [] ↔ l.all (cs.contains ·) = true := by
  unfold Lib.trimS Lib.trimLeftS Lib.trimRightS
  rw [dropWhile_nil, List.all_reverse]
  constructor
  · intro h
    have h1 : l.reverse.dropWhile (cs.contains ·) = [] := by
      cases e : l.reverse.dropWhile (cs.contains ·) with
      | nil => rfl
      | cons a t =>
        rw [e] at h
        have h2 := List.head?_dropWhile_not (cs.contains ·) l.reverse
        rw [e] at h2
        simp at h2 h
        exact absurd h.1 h2
    rw [dropWhile_nil, List.all_reverse] at h1
    exact h1
  · intro h
    have h1 : l.reverse.dropWhile (cs.contains ·) = [] := by rw [dropWhile_nil, List.all_reverse]; exact h
    rw [h1]
    rfl
def smalls : ByteArray := ⟨#[97, 98, 99, 100, 101, 102, 103, 104, 105, 106, 107, 108, 109, 110, 111, 112, 113, 114, 115, 116, 117, 118, 119, 120, 121, 122]⟩
def keySigns : ByteArray := ⟨#[97, 98, 99, 100, 101, 102, 103, 104, 105, 106, 107, 108, 109, 110, 111, 112, 113, 114, 115, 116, 117, 118, 119, 120, 121, 122, 48, 49, 50, 51, 52, 53, 54, 55, 56, 57, 45, 95]⟩
theorem small_in (c : UInt8) : smalls.data.toList.contains c = smallB c := by
  have : ∀ n : Fin 256, smalls.data.toList.contains (UInt8.ofNat n.val) = smallB (UInt8.ofNat n.val) := by decide +kernel
  have h := this ⟨c.toNat, c.toNat_lt⟩
  simpa using h
theorem key_in (c : UInt8) : keySigns.data.toList.contains c = keyC c := by
  have : ∀ n : Fin 256, keySigns.data.toList.contains (UInt8.ofNat n.val) = keyC (UInt8.ofNat n.val) := by decide +kernel
  have h := this ⟨c.toNat, c.toNat_lt⟩
  simpa using h

set_option maxHeartbeats 400000 in
theorem in_any (n l h : Int) (w : World) : Calls Tryz.prog 59 #[.int .i64 n, .int .i64 l, .int .i64 h] w fun e w' => e = .returned (.bool (decide (l ≤ n) && decide (n ≤ h))) ∧ w = w' := by
  by_cases h1 : l ≤ n
  · go_enter Tryz.func59, Tryz.ntmps59
    go_wp2
    go_ret
    exact ⟨by simp [h1], rfl⟩
  · go_enter Tryz.func59, Tryz.ntmps59
    go_wp2
    go_ret
    exact ⟨by simp; omega, rfl⟩
def onlyB (s cut : ByteArray) : Bool := s.data.toList.all (cut.data.toList.contains ·)
set_option maxHeartbeats 400000 in
theorem only_any (s cut : ByteArray) (w : World) (hs : s.size ≤ 1000000000) (hcs : cut.size < 1000) (hascii : ∀ (j : Nat) b, cut.data.toList[j]? = some b → b.toNat < 128) :
    Calls Tryz.prog 60 #[.string s, .string cut] w fun e w' => e = .returned (.bool (onlyB s cut)) ∧ Below w.heap.size w w' := by
  have HT := Lib.hid (Any.strings_Trim_laid Tryz.lays160 (by kernel_rfl) s cut w (by omega) (by omega) hascii)
  have hv : Hid ((ByteArray.mk (Lib.trimS s.data.toList cut.data.toList).toArray).toList = [] ↔ onlyB s cut = true) := by
    show _ ↔ _
    rw [ByteArray.toList_eq]
    exact trimS_nil _ _
  clear hascii
  go_enter Tryz.func60, Tryz.ntmps60
  go_wp2_with fail
  refine HT.out.mono ?_
  rintro e w1 ⟨rfl, hb⟩
  generalize ByteArray.mk (Lib.trimS s.data.toList cut.data.toList).toArray = X at hv
  have HB := Lib.hid hb
  clear hb HT
  by_cases hX : X.toList = []
  · have h1 : X.toList.isEmpty = true := by rw [hX]; rfl
    have hr := Lib.hid (hv.out.1 hX)
    have HX := Lib.hid hX
    clear hX
    go_wp2_with fail
    go_ret
    exact ⟨ret_bool' hr.out.symm, HB.out⟩
  · have h1 : X.toList.isEmpty = false := by cases e : X.toList with | nil => exact absurd e hX | cons a l => rfl
    have hr : Hid (onlyB s cut = false) := by
      show _ = _
      cases e : onlyB s cut with
      | false => rfl
      | true => exact absurd (hv.out.2 e) hX
    clear hX
    go_wp2_with fail
    go_ret
    exact ⟨ret_bool' hr.out.symm, HB.out⟩
theorem ascii_of (cut : ByteArray) (h : (cut.data.toList.all fun b => decide (b.toNat < 128)) = true) : ∀ (j : Nat) b, cut.data.toList[j]? = some b → b.toNat < 128 := fun j b hb => by
  have := List.all_eq_true.1 h b (List.mem_of_getElem? hb)
  simpa using this
set_option maxHeartbeats 1000000 in
theorem Key_any (s : ByteArray) (w : World) (hs : s.size ≤ 1000000000) :
    Calls Tryz.prog 40 #[.string s] w fun e w' => e = .returned (.bool (isKey s)) ∧ Below w.heap.size w w' := by
  by_cases h1 : 1 ≤ s.size ∧ s.size ≤ 40
  · have h2 : (decide ((1 : Int) ≤ (s.size : Int)) && decide ((s.size : Int) ≤ 40)) = true := by simp; omega
    have h0 : 0 < s.size := by omega
    have H2 := Lib.hid h2
    have hh : Hid (isKey s = (onlyB (s.extract 0 1) smalls && onlyB s keySigns)) := by
      show _ = _
      have e1 : s.data.toList.head? = some s[0] := by
        rw [List.head?_eq_getElem?, List.getElem?_eq_getElem (by simpa using h0)]; rfl
      have e2 : (s.extract 0 1).data.toList = [s[0]] := by
        rw [ByteArray.data_extract]
        have : s.data.toList.length = s.size := by simp
        simp [Array.toList_extract, List.take_one, e1]
      unfold isKey onlyB
      rw [e1, e2, decide_eq_true h1]
      simp only [List.all_cons, List.all_nil, Bool.and_true, Option.map_some, Option.getD_some, Bool.true_and, small_in]
      congr 1
      unfold allB
      apply List.all_congr rfl
      intro c
      exact (key_in c).symm
    have hsz1 : (s.extract 0 1).size ≤ 1000000000 := by simp; omega
    clear h2
    go_enter Tryz.func40, Tryz.ntmps40
    go_wp2_with fail
    refine (in_any _ _ _ _).mono ?_
    rintro e w' ⟨rfl, rfl⟩
    rw [H2.out]
    go_wp2_with fail
    refine (only_any (s.extract 0 1) _ w hsz1 (by decide) (ascii_of _ (by decide))).mono ?_
    rintro e w1 ⟨rfl, hb1⟩
    have HB1 := Lib.hid hb1
    clear hb1
    generalize hq : onlyB (s.extract 0 1) _ = q
    have hq' : Hid (isKey s = (q && onlyB s keySigns)) := by rw [← hq]; exact hh
    clear hq hh
    cases q with
    | false =>
      go_wp2_with fail
      go_ret
      exact ⟨ret_bool' (hq'.out.trans (Bool.false_and _)).symm, HB1.out⟩
    | true =>
      go_wp2_with fail
      refine (only_any s _ w1 hs (by decide) (ascii_of _ (by decide))).mono ?_
      rintro e w2 ⟨rfl, hb2⟩
      have HB2 := Lib.hid (HB1.out.trans (hb2.mono HB1.out.size))
      clear hb2
      generalize hp : onlyB s _ = p
      have hp' : Hid (isKey s = p) := by show _ = _; rw [← hp, hq'.out, Bool.true_and]; rfl
      clear hp hq'
      go_wp2_with fail
      go_ret
      exact ⟨ret_bool' hp'.out.symm, HB2.out⟩
  · have h2 : (decide ((1 : Int) ≤ (s.size : Int)) && decide ((s.size : Int) ≤ 40)) = false := by simp; omega
    have H2 := Lib.hid h2
    have hh : Hid (isKey s = false) := by show _ = _; unfold isKey; rw [decide_eq_false h1]; rfl
    clear h2
    go_enter Tryz.func40, Tryz.ntmps40
    go_wp2_with fail
    refine (in_any _ _ _ _).mono ?_
    rintro e w' ⟨rfl, rfl⟩
    rw [H2.out]
    go_wp2_with fail
    go_ret
    exact ⟨ret_bool' hh.out.symm, Below.refl _ _⟩
end Go.Proofs.YtihcmifikbkbcaaGreatDoor

/- The document's checks of letters that were sent, and of gains. -/
namespace Go.Proofs.YtihcmifikbkbcaaGreatDoor
set_option linter.unusedVariables false
open Go.RowKit
set_option maxHeartbeats 400000 in
theorem keyOf_any (s : ByteArray) (w : World) (hs : s.size ≤ 1000000000) : Calls Tryz.prog 24 #[.string s] w fun e w' => e = .returned (.bool (isKey s)) ∧ Below w.heap.size w w' := by
  go_enter Tryz.func24, Tryz.ntmps24
  go_wp2_with fail
  refine (Key_any s w hs).mono ?_
  rintro e w' ⟨rfl, hb⟩
  have HB := Lib.hid hb
  clear hb
  generalize hq : isKey s = q
  have HQ := Lib.hid hq
  clear hq
  go_wp2_with fail
  go_ret
  exact ⟨ret_bool' HQ.out.symm, HB.out⟩
set_option maxHeartbeats 400000 in
theorem momR_any (n : Int) (w : World) : Calls Tryz.prog 27 #[.int .i64 n] w fun e w' => e = .returned (.bool (decide (0 ≤ n) && decide (n ≤ 4321439))) ∧ w = w' := by
  by_cases h1 : 0 ≤ n
  · go_enter Tryz.func27, Tryz.ntmps27
    go_wp2
    go_ret
    exact ⟨by simp [h1]; omega, rfl⟩
  · go_enter Tryz.func27, Tryz.ntmps27
    go_wp2
    go_ret
    exact ⟨by simp; omega, rfl⟩
set_option maxHeartbeats 1000000 in
theorem sentFault1_any (H : Frz) (g : Nat) (d x : SentD) (hb : H g = some (.cells #[.string d.id, .string d.person, .string d.letter, .int .i64 d.at_] 47 (0, 0))) (w : World) (hH : H.In w) :
    Calls Tryz.prog 26 #[.agg #[fSe x 0, fSe x 1, fSe x 2, fSe x 3], .pointer (some ⟨g, 0, none⟩)] w fun e w' => e = .returned (.bool (sameId d.id x)) ∧ Below w.heap.size w w' := by
  have y0 : (w.alloc (.cells #[.string x.id, .string x.person, .string x.letter, .int .i64 x.at_] 47)).cell? ⟨g, 0, none⟩ = some (.string d.id) := cell_h ((hH.alloc _) _ _ hb) 0 rfl
  have z0 : (w.alloc (.cells #[.string x.id, .string x.person, .string x.letter, .int .i64 x.at_] 47)).cell? ⟨w.heap.size, 0, none⟩ = some (.string x.id) := cell_h (heap_alloc_new _ _) 0 rfl
  have HBN := Lib.hid (new1 (w := w) (.cells #[.string x.id, .string x.person, .string x.letter, .int .i64 x.at_] 47))
  have HV : Hid (sameId d.id x = (x.id.toList == d.id.toList)) := rfl
  generalize sameId d.id x = r at HV
  clear hH hb
  show Calls Tryz.prog 26 #[.agg #[.string x.id, .string x.person, .string x.letter, .int .i64 x.at_], .pointer (some ⟨g, 0, none⟩)] w _
  generalize hq : (x.id.toList == d.id.toList) = q at HV
  go_enter Tryz.func26, Tryz.ntmps26
  go_upto_region 1 with (fail)
  generalize w.alloc _ = W1 at *
  go_wp2_with fail
  go_ret
  exact ⟨ret_bool' HV.out.symm, HBN.out⟩
set_option maxHeartbeats 4000000 in
set_option maxRecDepth 20000 in
theorem sentFault_any (H : Frz) (A : Option Addr) (cap : Nat) (ss : List SentD) (W : World) (hH : H.In W) (hR : Rw H A 4 fSe ss) (hsz : SzS ss) (hl : ss.length ≤ 5000) (hcap : ss.length ≤ cap) :
    Calls Tryz.prog 10 #[.slice A ss.length cap] W (ErrPost (sentAt ss) ss.length W) := by
  have HR := Lib.hid hR
  have HH := Lib.hid hH
  have HS := Lib.hid hsz
  have hl' : decide ((5000 : Int) < ss.length) = false := by simp; omega
  clear hR hH hsz
  go_enter Tryz.func10, Tryz.ntmps10
  go_wp2_with fail
  go_loopw [10] (fun t wr => ∃ i : Nat, i ≤ ss.length ∧ t = .int .i64 i ∧ Hid (∀ j, j < i → sentAt ss j = 0) ∧ Hid (Below W.heap.size W wr)) (fun t _ => ss.length - (intOf t).toNat)
  case atStart => exact ⟨0, by omega, rfl, fun j hj => by omega, Below.refl _ _⟩
  case round =>
    obtain ⟨i, hi, rfl, hok, hb0⟩ := hrel
    by_cases hlt : i < ss.length
    · have hin := HH.out.below hb0.out
      obtain ⟨b, off, hA, hbl, hc⟩ := HR.out.at_ hin hlt (by omega)
      have hprev : Hid (∀ p, i = p + 1 → ∃ pa : Int, prevAt ss i = pa ∧ ∀ W', Below wr.heap.size wr W' → W'.cell? ⟨b, off + p * 4 + 3, none⟩ = some (.int .i64 pa)) := by
        rintro p rfl
        have hp : p < ss.length := by omega
        obtain ⟨b', off', hA', hbl', hc'⟩ := HR.out.at_ hin hp (by omega)
        rw [hA] at hA'
        simp only [Option.some.injEq, Addr.mk.injEq] at hA'
        obtain ⟨rfl, rfl, _⟩ := hA'
        refine ⟨ss[p].at_, ?_, fun W' hW' => (hW'.cell (World.block_lt_of_cell? wr _ (hc' 3 (by omega)))).trans (hc' 3 (by omega))⟩
        unfold prevAt
        simp only [Nat.add_sub_cancel]
        rw [List.getElem?_eq_getElem hp]
      subst hA
      have c0 : wr.cell? ⟨b, off + i * 4, none⟩ = some (.string ss[i].id) := hc 0 (by omega)
      have c1 : wr.cell? ⟨b, off + i * 4 + 1, none⟩ = some (.string ss[i].person) := hc 1 (by omega)
      have c2 : wr.cell? ⟨b, off + i * 4 + 2, none⟩ = some (.string ss[i].letter) := hc 2 (by omega)
      have c3 : wr.cell? ⟨b, off + i * 4 + 3, none⟩ = some (.int .i64 ss[i].at_) := hc 3 (by omega)
      have hks := HS.out _ (List.getElem_mem hlt)
      have HAT := Lib.hid (sentAt_eq hlt)
      have HLATE : Hid (lateB ss i ss[i] = (decide (0 < i) && decide (ss[i].at_ < prevAt ss i))) := rfl
      have HIN := Lib.hid hin
      clear hc hin
      generalize ss[i] = d at *
      obtain ⟨H2, hl2, hbx, hin2⟩ := HIN.out.put (.cells #[.string d.id, .string d.person, .string d.letter, .int .i64 d.at_] 47)
      have HBA := Lib.hid (new1 (w := wr) (.cells #[.string d.id, .string d.person, .string d.letter, .int .i64 d.at_] 47))
      have HB2 := Lib.hid (hb0.out.trans (HBA.out.mono hb0.out.size))
      have HBX := Lib.hid hbx
      have HIN2 := Lib.hid hin2
      have HR2 := Lib.hid ((HR.out.take i).le hl2)
      clear hl2 hbx hin2 hb0
      go_upto_region 6 with (fail)
      clear c0 c1 c2 c3
      generalize wr.alloc _ = W1 at *
      generalize wr.heap.size = g at *
      obtain ⟨z0, z1, z2, z3⟩ := frz4 HIN2.out HBX.out
      have HBAD : Hid (∀ (n : Int) (W' : World), sentErr d ((ss.take i).any (sameId d.id)) (lateB ss i d) = n → n ≠ 0 → Below W.heap.size W W' → ErrPost (sentAt ss) ss.length W (.returned (.int .i64 n)) W') := fun n W' h1 h2 h3 => ⟨n, rfl, IsErr.bad hlt hok.out (HAT.out.trans h1) h2, h3⟩
      go_wp2_with fail
      refine (keyOf_any d.id W1 (by omega)).mono ?_
      rintro e Wk ⟨rfl, hbk⟩
      have HB2 := Lib.hid (HB2.out.trans (hbk.mono HB2.out.size))
      have HBA := Lib.hid (HBA.out.trans (hbk.mono (Nat.le_of_lt (HIN2.out.lt HBX.out))))
      have HIN2 := Lib.hid (HIN2.out.below hbk)
      clear hbk z0 z1 z2 z3
      obtain ⟨z0, z1, z2, z3⟩ := frz4 HIN2.out HBX.out
      generalize hik : isKey d.id = ik
      have HIK := Lib.hid hik
      clear hik
      cases ik with
      | false =>
        have HF := Lib.hid (HBAD.out 5 _ (by simp [sentErr, HIK.out]) (by omega) HB2.out)
        go_wp2_with fail
        go_ret
        exact HF.out
      | true =>
      have hii : (i : Int) ≤ cap := by omega
      have hti : (ss.take i).length = i := by simp; omega
      have h46 := containsFunc_Se H2 fSe 26 [.pointer (some ⟨g, 0, none⟩)] (sameId d.id) (ss.take i) (fun W x _ hW => sentFault1_any H2 g d x HBX.out W hW) (fun _ _ => by kernel_rfl) (some ⟨b, off, none⟩) cap _ HIN2.out HR2.out (by omega)
      rw [hti] at h46
      have H46 := Lib.hid h46
      clear h46 hti
      go_wp2_with fail
      refine H46.out.mono ?_
      rintro e W2 ⟨rfl, hbW2⟩
      have HB3 := Lib.hid (HB2.out.trans (hbW2.mono HB2.out.size))
      have HBA3 := Lib.hid (HBA.out.trans (hbW2.mono (Nat.le_of_lt (HIN2.out.lt HBX.out))))
      have HIN3 := Lib.hid (HIN2.out.below hbW2)
      clear hbW2 HB2 HIN2 z0 z1 z2 z3 H46 HBA
      obtain ⟨z0, z1, z2, z3⟩ := frz4 HIN3.out HBX.out
      rw [show anyF (sameId d.id) (ss.take i) = (ss.take i).any (sameId d.id) from rfl]
      generalize hdu : (ss.take i).any (sameId d.id) = du at *
      have HDU := Lib.hid hdu
      clear hdu
      cases du with
      | true =>
        have HF := Lib.hid (HBAD.out 6 _ (by simp [sentErr, HIK.out]) (by omega) HB3.out)
        go_wp2_with fail
        go_ret
        exact HF.out
      | false =>
      go_wp2_with fail
      refine (keyOf_any d.person _ (by omega)).mono ?_
      rintro e Wk ⟨rfl, hbk⟩
      have HB3 := Lib.hid (HB3.out.trans (hbk.mono HB3.out.size))
      have HBA3 := Lib.hid (HBA3.out.trans (hbk.mono (Nat.le_of_lt (HIN3.out.lt HBX.out))))
      have HIN3 := Lib.hid (HIN3.out.below hbk)
      clear hbk z0 z1 z2 z3
      obtain ⟨z0, z1, z2, z3⟩ := frz4 HIN3.out HBX.out
      generalize hik : isKey d.person = ik
      have HIK2 := Lib.hid hik
      clear hik
      cases ik with
      | false =>
        have HF := Lib.hid (HBAD.out 5 _ (by simp [sentErr, HIK.out, HIK2.out]) (by omega) HB3.out)
        go_wp2_with fail
        go_ret
        exact HF.out
      | true =>
      go_wp2_with fail
      refine (keyOf_any d.letter _ (by omega)).mono ?_
      rintro e Wk ⟨rfl, hbk⟩
      have HB3 := Lib.hid (HB3.out.trans (hbk.mono HB3.out.size))
      have HBA3 := Lib.hid (HBA3.out.trans (hbk.mono (Nat.le_of_lt (HIN3.out.lt HBX.out))))
      have HIN3 := Lib.hid (HIN3.out.below hbk)
      clear hbk z0 z1 z2 z3
      obtain ⟨z0, z1, z2, z3⟩ := frz4 HIN3.out HBX.out
      generalize hik : isKey d.letter = ik
      have HIK3 := Lib.hid hik
      clear hik
      cases ik with
      | false =>
        have HF := Lib.hid (HBAD.out 5 _ (by simp [sentErr, HIK.out, HIK2.out, HIK3.out]) (by omega) HB3.out)
        go_wp2_with fail
        go_ret
        exact HF.out
      | true =>
      go_wp2_with fail
      refine (momR_any d.at_ _).mono ?_
      rintro e w' ⟨rfl, rfl⟩
      by_cases hm : 0 ≤ d.at_ ∧ d.at_ ≤ 4321439
      · have hmm : (decide (0 ≤ d.at_) && decide (d.at_ ≤ 4321439)) = true := by simp; omega
        rw [hmm]
        clear hmm
        have HERR : Hid (sentErr d false (lateB ss i d) = if lateB ss i d = true then 7 else 0) := by
          show _ = _
          simp [sentErr, HIK.out, HIK2.out, HIK3.out, hm]
        rcases Nat.eq_zero_or_pos i with h0 | hpos
        · have d1 : decide (0 < i) = false := by simp; omega
          have d2 : decide ((0 : Int) < (i : Int)) = false := by simp; omega
          have HOK : Hid (sentAt ss i = 0) := by
            show _ = _
            rw [HAT.out, HERR.out, HLATE.out, d1]
            simp
          clear h0 hm
          go_upto_region 14 with (fail)
          go_quiet (fail)
          have HB3 := Lib.hid (below_drewN HB3.out nq)
          go_wp2_with fail
          go_roundw
          case rel => exact ⟨i + 1, by omega, by go_num, errStep hok.out HOK.out, HB3.out⟩
          case measure => simp [intOf]; omega
        · obtain ⟨p, hp⟩ : ∃ p, i = p + 1 := ⟨i - 1, by omega⟩
          obtain ⟨pa, hpa, hcell⟩ := hprev.out p hp
          have q3 := hcell _ HBA3.out
          have d1 : decide (0 < i) = true := by simp; omega
          have d2 : decide ((0 : Int) < (i : Int)) = true := by simp; omega
          have a1 : IntKind.i64.wrap ((i : Int) - 1) = (p : Int) := by rw [show (i : Int) - 1 = p from by omega]; exact IntWalk.i64_in _ (by omega)
          have a2 : (i : Int) - 1 = (p : Int) := by omega
          have a3 : (p : Int) < ss.length := by omega
          have a4 : (0 : Int) ≤ (p : Int) := by omega
          have a5 : p < ss.length := by omega
          have HLT2 : Hid (lateB ss i d = decide (d.at_ < pa)) := by
            show _ = _
            rw [HLATE.out, d1, hpa]; simp
          clear hm hcell hpa hp hpos
          by_cases hla : d.at_ < pa
          · have e1 : decide (d.at_ < pa) = true := by simpa using hla
            have HF := Lib.hid (fun W' h => HBAD.out 7 W' (by rw [HERR.out, HLT2.out, e1]; simp) (by omega) h)
            clear hla
            go_upto_region 14 with (fail)
            go_quiet (fail)
            have HF2 := Lib.hid (HF.out _ (below_drewN HB3.out nq))
            clear HF
            go_wp2_with fail
            go_ret
            exact HF2.out
          · have e1 : decide (d.at_ < pa) = false := by simpa using hla
            have HOK : Hid (sentAt ss i = 0) := by
              show _ = _
              rw [HAT.out, HERR.out, HLT2.out, e1]
              simp
            clear hla
            go_upto_region 14 with (fail)
            go_quiet (fail)
            have HB3 := Lib.hid (below_drewN HB3.out nq)
            go_wp2_with fail
            go_roundw
            case rel => exact ⟨i + 1, by omega, by go_num, errStep hok.out HOK.out, HB3.out⟩
            case measure => simp [intOf]; omega
      · have hmm : (decide (0 ≤ d.at_) && decide (d.at_ ≤ 4321439)) = false := by simp; omega
        rw [hmm]
        have HF := Lib.hid (HBAD.out 1 _ (by simp only [sentErr, HIK.out, HIK2.out, HIK3.out]; simp [hm]) (by omega) HB3.out)
        clear hmm hm
        go_wp2_with fail
        go_ret
        exact HF.out

    · have hie : i = ss.length := by omega
      subst hie
      have HF : Hid (ErrPost (sentAt ss) ss.length W (.returned (.int .i64 0)) wr) := ⟨0, rfl, IsErr.good hok.out, hb0.out⟩
      go_wp2_with fail
      go_ret
      exact HF.out
set_option maxHeartbeats 1000000 in
theorem gainsFault1_any (H : Frz) (g : Nat) (d x : GainD) (hb : H g = some (.cells #[.string d.id, .string d.person, .int .i64 d.at_, .int .i64 d.cents] 40 (0, 0))) (w : World) (hH : H.In w) :
    Calls Tryz.prog 29 #[.agg #[fGa x 0, fGa x 1, fGa x 2, fGa x 3], .pointer (some ⟨g, 0, none⟩)] w fun e w' => e = .returned (.bool (sameGa d.id x)) ∧ Below w.heap.size w w' := by
  have y0 : (w.alloc (.cells #[.string x.id, .string x.person, .int .i64 x.at_, .int .i64 x.cents] 40)).cell? ⟨g, 0, none⟩ = some (.string d.id) := cell_h ((hH.alloc _) _ _ hb) 0 rfl
  have z0 : (w.alloc (.cells #[.string x.id, .string x.person, .int .i64 x.at_, .int .i64 x.cents] 40)).cell? ⟨w.heap.size, 0, none⟩ = some (.string x.id) := cell_h (heap_alloc_new _ _) 0 rfl
  have HBN := Lib.hid (new1 (w := w) (.cells #[.string x.id, .string x.person, .int .i64 x.at_, .int .i64 x.cents] 40))
  have HV : Hid (sameGa d.id x = (x.id.toList == d.id.toList)) := rfl
  generalize sameGa d.id x = r at HV
  clear hH hb
  show Calls Tryz.prog 29 #[.agg #[.string x.id, .string x.person, .int .i64 x.at_, .int .i64 x.cents], .pointer (some ⟨g, 0, none⟩)] w _
  generalize hq : (x.id.toList == d.id.toList) = q at HV
  go_enter Tryz.func29, Tryz.ntmps29
  go_upto_region 1 with (fail)
  generalize w.alloc _ = W1 at *
  go_wp2_with fail
  go_ret
  exact ⟨ret_bool' HV.out.symm, HBN.out⟩
set_option maxHeartbeats 4000000 in
set_option maxRecDepth 20000 in
theorem gainsFault_any (H : Frz) (A : Option Addr) (cap : Nat) (ss : List GainD) (W : World) (hH : H.In W) (hR : Rw H A 4 fGa ss) (hsz : SzG ss) (hl : ss.length ≤ 1000) (hcap : ss.length ≤ cap) :
    Calls Tryz.prog 11 #[.slice A ss.length cap] W (ErrPost (gainAt ss) ss.length W) := by
  have HR := Lib.hid hR
  have HH := Lib.hid hH
  have HS := Lib.hid hsz
  have hl' : decide ((1000 : Int) < ss.length) = false := by simp; omega
  clear hR hH hsz
  go_enter Tryz.func11, Tryz.ntmps11
  go_wp2_with fail
  go_loopw [10] (fun t wr => ∃ i : Nat, i ≤ ss.length ∧ t = .int .i64 i ∧ Hid (∀ j, j < i → gainAt ss j = 0) ∧ Hid (Below W.heap.size W wr)) (fun t _ => ss.length - (intOf t).toNat)
  case atStart => exact ⟨0, by omega, rfl, fun j hj => by omega, Below.refl _ _⟩
  case round =>
    obtain ⟨i, hi, rfl, hok, hb0⟩ := hrel
    by_cases hlt : i < ss.length
    · have hin := HH.out.below hb0.out
      obtain ⟨b, off, hA, hbl, hc⟩ := HR.out.at_ hin hlt (by omega)
      subst hA
      have c0 : wr.cell? ⟨b, off + i * 4, none⟩ = some (.string ss[i].id) := hc 0 (by omega)
      have c1 : wr.cell? ⟨b, off + i * 4 + 1, none⟩ = some (.string ss[i].person) := hc 1 (by omega)
      have c2 : wr.cell? ⟨b, off + i * 4 + 2, none⟩ = some (.int .i64 ss[i].at_) := hc 2 (by omega)
      have c3 : wr.cell? ⟨b, off + i * 4 + 3, none⟩ = some (.int .i64 ss[i].cents) := hc 3 (by omega)
      have hks := HS.out _ (List.getElem_mem hlt)
      have HAT := Lib.hid (gainAt_eq hlt)
      have HIN := Lib.hid hin
      clear hc hin
      generalize ss[i] = d at *
      obtain ⟨H2, hl2, hbx, hin2⟩ := HIN.out.put (.cells #[.string d.id, .string d.person, .int .i64 d.at_, .int .i64 d.cents] 40)
      have HBA := Lib.hid (new1 (w := wr) (.cells #[.string d.id, .string d.person, .int .i64 d.at_, .int .i64 d.cents] 40))
      have HB2 := Lib.hid (hb0.out.trans (HBA.out.mono hb0.out.size))
      have HBX := Lib.hid hbx
      have HIN2 := Lib.hid hin2
      have HR2 := Lib.hid ((HR.out.take i).le hl2)
      clear hl2 hbx hin2 hb0
      go_upto_region 6 with (fail)
      clear c0 c1 c2 c3
      generalize wr.alloc _ = W1 at *
      generalize wr.heap.size = g at *
      obtain ⟨z0, z1, z2, z3⟩ := frz4 HIN2.out HBX.out
      have HBAD : Hid (∀ (n : Int) (W' : World), gainErr d ((ss.take i).any (sameGa d.id)) = n → n ≠ 0 → Below W.heap.size W W' → ErrPost (gainAt ss) ss.length W (.returned (.int .i64 n)) W') := fun n W' h1 h2 h3 => ⟨n, rfl, IsErr.bad hlt hok.out (HAT.out.trans h1) h2, h3⟩
      go_wp2_with fail
      refine (keyOf_any d.id W1 (by omega)).mono ?_
      rintro e Wk ⟨rfl, hbk⟩
      have HB2 := Lib.hid (HB2.out.trans (hbk.mono HB2.out.size))
      have HBA := Lib.hid (HBA.out.trans (hbk.mono (Nat.le_of_lt (HIN2.out.lt HBX.out))))
      have HIN2 := Lib.hid (HIN2.out.below hbk)
      clear hbk z0 z1 z2 z3
      obtain ⟨z0, z1, z2, z3⟩ := frz4 HIN2.out HBX.out
      generalize hik : isKey d.id = ik
      have HIK := Lib.hid hik
      clear hik
      cases ik with
      | false =>
        have HF := Lib.hid (HBAD.out 5 _ (by simp [gainErr, HIK.out]) (by omega) HB2.out)
        go_wp2_with fail
        go_ret
        exact HF.out
      | true =>
      have hii : (i : Int) ≤ cap := by omega
      have hti : (ss.take i).length = i := by simp; omega
      have h46 := containsFunc_Ga H2 fGa 29 [.pointer (some ⟨g, 0, none⟩)] (sameGa d.id) (ss.take i) (fun W x _ hW => gainsFault1_any H2 g d x HBX.out W hW) (fun _ _ => by kernel_rfl) (some ⟨b, off, none⟩) cap _ HIN2.out HR2.out (by omega)
      rw [hti] at h46
      have H46 := Lib.hid h46
      clear h46 hti
      go_wp2_with fail
      refine H46.out.mono ?_
      rintro e W2 ⟨rfl, hbW2⟩
      have HB3 := Lib.hid (HB2.out.trans (hbW2.mono HB2.out.size))
      have HBA3 := Lib.hid (HBA.out.trans (hbW2.mono (Nat.le_of_lt (HIN2.out.lt HBX.out))))
      have HIN3 := Lib.hid (HIN2.out.below hbW2)
      clear hbW2 HB2 HIN2 z0 z1 z2 z3 H46 HBA
      obtain ⟨z0, z1, z2, z3⟩ := frz4 HIN3.out HBX.out
      rw [show anyF (sameGa d.id) (ss.take i) = (ss.take i).any (sameGa d.id) from rfl]
      generalize hdu : (ss.take i).any (sameGa d.id) = du at *
      have HDU := Lib.hid hdu
      clear hdu
      cases du with
      | true =>
        have HF := Lib.hid (HBAD.out 6 _ (by simp [gainErr, HIK.out]) (by omega) HB3.out)
        go_wp2_with fail
        go_ret
        exact HF.out
      | false =>
      go_wp2_with fail
      refine (keyOf_any d.person _ (by omega)).mono ?_
      rintro e Wk ⟨rfl, hbk⟩
      have HB3 := Lib.hid (HB3.out.trans (hbk.mono HB3.out.size))
      have HBA3 := Lib.hid (HBA3.out.trans (hbk.mono (Nat.le_of_lt (HIN3.out.lt HBX.out))))
      have HIN3 := Lib.hid (HIN3.out.below hbk)
      clear hbk z0 z1 z2 z3
      obtain ⟨z0, z1, z2, z3⟩ := frz4 HIN3.out HBX.out
      generalize hik : isKey d.person = ik
      have HIK2 := Lib.hid hik
      clear hik
      cases ik with
      | false =>
        have HF := Lib.hid (HBAD.out 5 _ (by simp [gainErr, HIK.out, HIK2.out]) (by omega) HB3.out)
        go_wp2_with fail
        go_ret
        exact HF.out
      | true =>
      go_wp2_with fail
      refine (momR_any d.at_ _).mono ?_
      rintro e w' ⟨rfl, rfl⟩
      by_cases hm : 0 ≤ d.at_ ∧ d.at_ ≤ 4321439
      · have hmm : (decide (0 ≤ d.at_) && decide (d.at_ ≤ 4321439)) = true := by simp; omega
        rw [hmm]
        clear hmm
        by_cases hc0 : 0 ≤ d.cents
        · have hc1 : ¬ d.cents < 0 := by omega
          by_cases hc2 : d.cents ≤ 1000000000000
          · have hc3 : ¬ (1000000000000 : Int) < d.cents := by omega
            have HOK : Hid (gainAt ss i = 0) := by
              show _ = _
              rw [HAT.out]
              simp [gainErr, HIK.out, HIK2.out, hm, hc0, hc2]
            clear hm
            go_wp2_with fail
            go_roundw
            case rel => exact ⟨i + 1, by omega, by go_num, errStep hok.out HOK.out, HB3.out⟩
            case measure => simp [intOf]; omega
          · have hc3 : (1000000000000 : Int) < d.cents := by omega
            have HF := Lib.hid (HBAD.out 1 _ (by simp only [gainErr, HIK.out, HIK2.out]; simp [hm]; omega) (by omega) HB3.out)
            clear hm
            go_wp2_with fail
            go_ret
            exact HF.out
        · have hc1 : d.cents < 0 := by omega
          have HF := Lib.hid (HBAD.out 1 _ (by simp only [gainErr, HIK.out, HIK2.out]; simp [hm]; omega) (by omega) HB3.out)
          clear hm
          go_wp2_with fail
          go_ret
          exact HF.out
      · have hmm : (decide (0 ≤ d.at_) && decide (d.at_ ≤ 4321439)) = false := by simp; omega
        rw [hmm]
        have HF := Lib.hid (HBAD.out 1 _ (by simp only [gainErr, HIK.out, HIK2.out]; simp [hm]) (by omega) HB3.out)
        clear hmm hm
        go_wp2_with fail
        go_ret
        exact HF.out

    · have hie : i = ss.length := by omega
      subst hie
      have HF : Hid (ErrPost (gainAt ss) ss.length W (.returned (.int .i64 0)) wr) := ⟨0, rfl, IsErr.good hok.out, hb0.out⟩
      go_wp2_with fail
      go_ret
      exact HF.out
end Go.Proofs.YtihcmifikbkbcaaGreatDoor
