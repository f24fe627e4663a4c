/- Purses: what is left, all holds. -/
import Derived.Test.YtecbejmeejepmaaDoorPurse2
namespace Go.Proofs.YtecbejmeejepmaaDoor
set_option linter.unusedVariables false
open Go.RowKit

theorem pacedN_bd (b : BudgetD) (n : Int) (hl : limB b = true) (h0 : 0 ≤ n) : 0 ≤ pacedN b n ∧ pacedN b n ≤ b.cents ∧ b.cents ≤ 1000000000000 := by
  obtain ⟨y1, y2, y3, y4, y5⟩ : 0 ≤ b.cents ∧ b.cents ≤ 1000000000000 ∧ 0 ≤ b.first ∧ b.first ≤ b.last ∧ b.last ≤ 3000 := by
    simp [limB] at hl; omega
  unfold pacedN
  split
  · exact ⟨by omega, y1, y2⟩
  · split
    · exact ⟨y1, by omega, y2⟩
    · rename_i h1 h2
      have h3 : n.tdiv 1440 < b.last := by
        apply Int.not_le.1
        exact fun h => h2 (Or.inl h)
      refine ⟨Int.ediv_nonneg (Int.mul_nonneg y1 (by omega)) (by omega), ?_, y2⟩
      apply Int.ediv_le_of_le_mul (by omega)
      exact Int.mul_le_mul_of_nonneg_left (by omega) y1
def LeftPost (w : World) (e : Ending) (w' : World) : Prop := (∃ m : Int, 0 ≤ m ∧ e = .returned (.tuple #[.int .i64 m, .int .i64 0])) ∧ Below w.heap.size w w'
theorem LeftPost.mk' {w w' : World} {m : Int} (h : 0 ≤ m) (hb : Below w.heap.size w w') : LeftPost w (.returned (.tuple #[.int .i64 m, .int .i64 0])) w' := ⟨⟨m, h, rfl⟩, hb⟩
set_option maxHeartbeats 4000000 in
theorem left_any (H : Frz) (g : Nat) (ds : List BudgetD) (hs : List HoldD) (now : Int) (hP : PF H g ds hs now) (hc : ∀ h ∈ hs, 0 ≤ h.cents ∧ h.cents ≤ 1000000000000) (hlim : ∀ d ∈ ds, limB d = true)
    (key : ByteArray) (hk : ∃ d ∈ ds, sameKey key d = true) (n : Int) (h0 : 0 ≤ n) (h9 : n ≤ 4321439) (hn : now ≤ n) (w : World) (hH : H.In w) :
    Calls Tryd.prog 26 #[.pointer (some ⟨g, 0, none⟩), .string key, .int .i64 n] w (LeftPost w) := by
  have HP := Lib.hid hP
  have HH := Lib.hid hH
  have HK := Lib.hid hk
  have HC := Lib.hid hc
  have HL := Lib.hid hlim
  have hm : (decide (0 ≤ n) && decide (n ≤ 4321439)) = true := by simp; omega
  have HM := Lib.hid hm
  clear hP hH hk hc hlim hm
  go_enter Tryd.func26, Tryd.ntmps26
  go_wp2_with fail
  refine (budgetOf_any H g ds hs now HP.out key w HH.out).mono ?_
  rintro e W1 ⟨hof, hb1⟩
  rcases hof with ⟨hno, _⟩ | ⟨d, hd, hsk, rfl⟩
  · obtain ⟨d, hd, he⟩ := HK.out
    rw [hno d hd] at he
    cases he
  · have HD := Lib.hid hd
    have hin1 := HH.out.below hb1
    have HB1 := Lib.hid hb1
    have HIN1 := Lib.hid hin1
    obtain ⟨H2, hl2, hbx, hin2⟩ := hin1.put (.cells #[.string d.key, .int .i64 d.cents, .int .i64 d.first, .int .i64 d.last, .bool d.pace] 59)
    have HB2 := Lib.hid (hb1.alloc hb1.size (.cells #[.string d.key, .int .i64 d.cents, .int .i64 d.first, .int .i64 d.last, .bool d.pace] 59))
    have HL2 := Lib.hid hl2
    have HBX := Lib.hid hbx
    have HIN2 := Lib.hid hin2
    clear hl2 hbx hin2 hb1 hin1 hd hsk
    go_wp2_with fail
    refine (isMoment_any n _).mono ?_
    rintro e w' ⟨rfl, rfl⟩
    rw [HM.out]
    obtain ⟨A, cap, Ah, caph, hg, _⟩ := HP.out
    obtain ⟨x0, x1, x2⟩ := frz3 HIN2.out (HL2.out _ _ hg)
    have HG := Lib.hid hg
    clear hg
    go_wp2_with fail
    clear x0 x1 x2
    have HP2 : Hid (PF H2 g ds hs now) := by
      obtain ⟨A, cap, Ah, caph, hg, r1, r2, r3⟩ := HP.out
      exact ⟨A, cap, Ah, caph, HL2.out _ _ hg, r1.le HL2.out, r2.le HL2.out, r3⟩
    generalize W1.alloc _ = W2 at HB2 HIN2
    have hbd := pacedN_bd d n (HL.out d HD.out) h0
    refine (paced_any d n W2 (HL.out d HD.out) h0 h9).mono ?_
    rintro e W3 ⟨rfl, hb3⟩
    generalize pacedN d n = pc at hbd
    have HB3 := Lib.hid (HB2.out.trans (hb3.mono HB2.out.size))
    have HIN3 := Lib.hid (HIN2.out.below hb3)
    clear hb3
    go_wp2_with fail
    refine (taken_any H2 g ds hs now HP2.out HC.out key n W3 HIN3.out).mono ?_
    rintro e W4 ⟨rfl, hb4⟩
    have HB4 := Lib.hid (HB3.out.trans (hb4.mono HB3.out.size))
    clear hb4
    have htb := takenN_bd hs key n HC.out
    have hsl : hs.length ≤ 1000000 := by obtain ⟨_, _, _, _, _, _, _, _, _, _, h⟩ := HP2.out; exact h
    generalize takenN hs key n = tk at htb
    have htb2 : tk ≤ 1000000000000000000 := by omega
    go_wp2_with fail
    go_ret2
    exact LeftPost.mk' (Int.le_max_right _ _) HB4.out
end Go.Proofs.YtecbejmeejepmaaDoor
