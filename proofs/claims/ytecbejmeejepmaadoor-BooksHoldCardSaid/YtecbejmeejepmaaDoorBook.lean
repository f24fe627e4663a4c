/- Books of coupons: their reading functions. -/
import Derived.StringKeys
import Derived.Test.YtecbejmeejepmaaDoorBookP
import Derived.Test.YtecbejmeejepmaaDoorPurse6
import Derived.Test.YtecbejmeejepmaaDoorCheckCode
import Derived.Test.YtecbejmeejepmaaDoorCloneRedemption
namespace Go.Proofs.YtecbejmeejepmaaDoor
set_option linter.unusedVariables false
open Go.RowKit

theorem strKeyed : Maps.Keyed Tryd.prog 9 := Maps.string_keyed Tryd.underlying9
theorem strKey {s : ByteArray} (h : s.size ≤ 1000000000) : keyOf Tryd.prog 9 (.string s) = some (codeLit s) := Go.WideMaps.keyOf_string_mk Tryd.underlying9 (by unfold maxLen; omega)
theorem zeroCoupon (w : World) : (zeroValue 44).run Tryd.prog w = .ok (.agg #[.string ⟨#[]⟩, .string ⟨#[]⟩, .int .i64 0, .int .i64 0, .int .i64 0, .int .i64 0]) w := by kernel_rfl
/-- A map that lies for good. -/
def MpF (H : Frz) (b n : Nat) (m : Lit → Option Value) : Prop := ∃ o, H b = some o ∧ ∀ w : World, w.heap[b]? = some o → Mp Tryd.prog 9 w b n m
theorem MpF.le {H H' : Frz} {b n : Nat} {m : Lit → Option Value} (h : MpF H b n m) (hl : H.Le H') : MpF H' b n m := by
  obtain ⟨o, h1, h2⟩ := h
  exact ⟨o, hl _ _ h1, h2⟩
theorem MpF.in_ {H : Frz} {b n : Nat} {m : Lit → Option Value} (h : MpF H b n m) {w : World} (hH : H.In w) : Mp Tryd.prog 9 w b n m := by
  obtain ⟨o, h1, h2⟩ := h
  exact h2 w (hH _ _ h1)
/-- A book that lies in H. -/
def BF (H : Frz) (g : Nat) (ds : List CouponD) (us : List UseD) : Prop := ∃ (bm n : Nat) (A : Option Addr) (cap : Nat),
  H g = some (.cells #[.map (some bm), .slice A us.length cap] 71 (0, 0)) ∧ MpF H bm n (coMap ds) ∧ Rw H A 5 fU us ∧ us.length ≤ cap ∧ us.length ≤ 1000000
theorem BF.le {H H' : Frz} {g : Nat} {ds : List CouponD} {us : List UseD} (h : BF H g ds us) (hl : H.Le H') : BF H' g ds us := by
  obtain ⟨bm, n, A, cap, h1, h2, h3, h4⟩ := h
  exact ⟨bm, n, A, cap, hl _ _ h1, h2.le hl, h3.le hl, h4⟩
theorem frz2 {H : Frz} {w : World} (h : H.In w) {g : Nat} {x y : Value} {T : TypeId} (e : H g = some (.cells #[x, y] T (0, 0))) :
    w.cell? ⟨g, 0, none⟩ = some x ∧ w.cell? ⟨g, 1, none⟩ = some y := by
  have := h _ _ e
  simp [World.cell?, this]
set_option maxHeartbeats 4000000 in
theorem used_any (H : Frz) (g : Nat) (ds : List CouponD) (us : List UseD) (hP : BF H g ds us) (code who : ByteArray) (w : World) (hH : H.In w) :
    Calls Tryd.prog 42 #[.pointer (some ⟨g, 0, none⟩), .string code, .string who] w fun e w' => e = .returned (.tuple #[.int .i64 (allN us code), .int .i64 (ownN us code who)]) ∧ Below w.heap.size w w' := by
  obtain ⟨bm, n, A, cap, hg, hM, hAh, l2, l4⟩ := hP
  obtain ⟨x0, x1⟩ := frz2 hH hg
  have HR := Lib.hid hAh
  have HH := Lib.hid hH
  clear hg hM hAh hH
  go_enter Tryd.func42, Tryd.ntmps42
  go_wp2_with fail
  clear x0 x1
  go_loopw [6, 7, 15] (fun t v u wr => ∃ i : Nat, i ≤ us.length ∧ t = .int .i64 (allN (us.take i) code) ∧ v = .int .i64 (ownN (us.take i) code who) ∧ u = .int .i64 i ∧ Hid (Below w.heap.size w wr)) (fun _ _ u _ => us.length - (intOf u).toNat)
  case atStart => exact ⟨0, by omega, rfl, rfl, rfl, Below.refl _ _⟩
  case round =>
    obtain ⟨i, hi, rfl, rfl, rfl, hb⟩ := hrel
    by_cases hlt : i < us.length
    · have hin := HH.out.below hb.out
      obtain ⟨b, off, hA, hbl, hc⟩ := HR.out.at_ hin hlt (by omega)
      subst hA
      have c0 : wr.cell? ⟨b, off + i * 5, none⟩ = some (.int .i64 us[i].no) := hc 0 (by omega)
      have c1 : wr.cell? ⟨b, off + i * 5 + 1, none⟩ = some (.string us[i].code) := hc 1 (by omega)
      have c2 : wr.cell? ⟨b, off + i * 5 + 2, none⟩ = some (.string us[i].person) := hc 2 (by omega)
      have c3 : wr.cell? ⟨b, off + i * 5 + 3, none⟩ = some (.int .i64 us[i].at_) := hc 3 (by omega)
      have c4 : wr.cell? ⟨b, off + i * 5 + 4, none⟩ = some (.int .i64 us[i].undone) := hc 4 (by omega)
      have hs1 := Lib.hid (allN_succ us code i hlt)
      have hs2 := Lib.hid (ownN_succ us code who i hlt)
      have hbd1 := allN_le (us.take i) code
      have hbd2 := ownN_le (us.take i) code who
      have hlen : (us.take i).length = i := by simp; omega
      rw [hlen] at hbd1 hbd2
      clear hc hlen hin
      generalize us[i] = d at c0 c1 c2 c3 c4 hs1 hs2
      generalize allN (us.take i) code = t1 at hs1 hbd1
      generalize ownN (us.take i) code who = t2 at hs2 hbd2
      generalize ht1 : allN (us.take (i + 1)) code = t1' at hs1
      generalize ht2 : ownN (us.take (i + 1)) code who = t2' at hs2
      have HT1 := Lib.hid ht1
      have HT2 := Lib.hid ht2
      have HB2 := Lib.hid (hb.out.alloc hb.out.size (.cells #[.int .i64 d.no, .string d.code, .string d.person, .int .i64 d.at_, .int .i64 d.undone] 49))
      clear ht1 ht2
      by_cases e1 : (d.code.toList == code.toList) = true
      · have e1' : (d.code.toList != code.toList) = false := by simpa using e1
        by_cases e2 : d.undone < 0
        · have e2' : decide (0 ≤ d.undone) = false := by simp; omega
          by_cases e3 : (d.person.toList == who.toList) = true
          · have hv1 : Hid (t1' = t1 + 1) := by show _ = _; rw [hs1.out]; simp [liveB, e1, e2]
            have hv2 : Hid (t2' = t2 + 1) := by show _ = _; rw [hs2.out]; simp [ownB, liveB, e1, e2, e3]
            clear hs1 hs2
            go_wp2_with fail
            go_roundw
            case rel => exact ⟨i + 1, by omega, by rw [HT1.out, hv1.out]; go_num, by rw [HT2.out, hv2.out]; go_num, by go_num, HB2⟩
            case measure => simp [intOf]; omega
          · have e3' : (d.person.toList == who.toList) = false := by simpa using e3
            have hv1 : Hid (t1' = t1 + 1) := by show _ = _; rw [hs1.out]; simp [liveB, e1, e2]
            have hv2 : Hid (t2' = t2) := by show _ = _; rw [hs2.out]; simp [ownB, e3']
            clear hs1 hs2 e3
            go_wp2_with fail
            go_roundw
            case rel => exact ⟨i + 1, by omega, by rw [HT1.out, hv1.out]; go_num, by rw [HT2.out, hv2.out], by go_num, HB2⟩
            case measure => simp [intOf]; omega
        · have e2' : decide (0 ≤ d.undone) = true := by simp; omega
          have hv1 : Hid (t1' = t1) := by show _ = _; rw [hs1.out]; simp [liveB, e2]
          have hv2 : Hid (t2' = t2) := by show _ = _; rw [hs2.out]; simp [ownB, liveB, e2]
          clear hs1 hs2
          go_wp2_with fail
          go_roundw
          case rel => exact ⟨i + 1, by omega, by rw [HT1.out, hv1.out], by rw [HT2.out, hv2.out], by go_num, HB2⟩
          case measure => simp [intOf]; omega
      · have e1' : (d.code.toList != code.toList) = true := by simpa using e1
        have e1n : (d.code.toList == code.toList) = false := by simpa using e1
        have hv1 : Hid (t1' = t1) := by show _ = _; rw [hs1.out]; simp [liveB, e1n]
        have hv2 : Hid (t2' = t2) := by show _ = _; rw [hs2.out]; simp [ownB, liveB, e1n]
        clear hs1 hs2 e1
        go_wp2_with fail
        go_roundw
        case rel => exact ⟨i + 1, by omega, by rw [HT1.out, hv1.out], by rw [HT2.out, hv2.out], by go_num, HB2⟩
        case measure => simp [intOf]; omega
    · have hie : i = us.length := by omega
      subst hie
      rw [List.take_length]
      go_wp2_with fail
      go_ret2
      exact ⟨rfl, hb.out⟩
end Go.Proofs.YtecbejmeejepmaaDoor
