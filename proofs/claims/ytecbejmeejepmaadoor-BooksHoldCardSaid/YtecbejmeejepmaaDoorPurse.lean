/- Purses: their reading functions. -/
import Derived.Test.YtecbejmeejepmaaDoorBudgets
import Derived.Test.YtecbejmeejepmaaDoorCloneBudget
namespace Go.Proofs.YtecbejmeejepmaaDoor
set_option linter.unusedVariables false
open Go.RowKit

structure HoldD where
  no : Int
  key : ByteArray
  cents : Int
  at_ : Int
  until_ : Int
  state : Int
def fH (d : HoldD) : Nat → Value
  | 0 => .int .i64 d.no
  | 1 => .string d.key
  | 2 => .int .i64 d.cents
  | 3 => .int .i64 d.at_
  | 4 => .int .i64 d.until_
  | _ => .int .i64 d.state
def stN (h : HoldD) (n : Int) : Int := if h.state = 1 ∧ h.until_ ≤ n then 4 else h.state
def pacedN (b : BudgetD) (n : Int) : Int := if n.tdiv 1440 < b.first then 0 else if b.last ≤ n.tdiv 1440 ∨ b.pace = false then b.cents else b.cents * (n.tdiv 1440 - b.first + 1) / (b.last - b.first + 1)
def hAgg (h : HoldD) : Value := .agg #[.int .i64 h.no, .string h.key, .int .i64 h.cents, .int .i64 h.at_, .int .i64 h.until_, .int .i64 h.state]
def bAgg (d : BudgetD) : Value := .agg #[.string d.key, .int .i64 d.cents, .int .i64 d.first, .int .i64 d.last, .bool d.pace]

set_option maxHeartbeats 1000000 in
theorem stateAt_any (h : HoldD) (n : Int) (w : World) :
    Calls Tryd.prog 55 #[.agg #[.int .i64 h.no, .string h.key, .int .i64 h.cents, .int .i64 h.at_, .int .i64 h.until_, .int .i64 h.state], .int .i64 n] w fun e w' => e = .returned (.int .i64 (stN h n)) ∧ Below w.heap.size w w' := by
  by_cases h1 : h.state = 1
  · have g1 : (h.state == 1) = true := by simp [h1]
    by_cases h2 : h.until_ ≤ n
    · have hv : Hid (stN h n = 4) := by show _ = _; simp [stN, h1, h2]
      generalize stN h n = r at hv
      clear h1
      go_enter Tryd.func55, Tryd.ntmps55
      go_wp2_with fail
      go_ret
      exact ⟨by rw [hv.out]; rfl, (Below.refl _ _).alloc (Nat.le_refl _) _⟩
    · have hv : Hid (stN h n = h.state) := by show _ = _; simp [stN, h2]
      generalize stN h n = r at hv
      clear h1
      go_enter Tryd.func55, Tryd.ntmps55
      go_wp2_with fail
      go_ret
      exact ⟨by rw [hv.out]; rfl, (Below.refl _ _).alloc (Nat.le_refl _) _⟩
  · have g1 : (h.state == 1) = false := by simp [h1]
    have hv : Hid (stN h n = h.state) := by show _ = _; simp [stN, h1]
    generalize stN h n = r at hv
    clear h1
    go_enter Tryd.func55, Tryd.ntmps55
    go_wp2_with fail
    go_ret
    exact ⟨by rw [hv.out]; rfl, (Below.refl _ _).alloc (Nat.le_refl _) _⟩
set_option maxHeartbeats 400000 in
theorem isMoment_any (n : Int) (w : World) : Calls Tryd.prog 33 #[.int .i64 n] w fun e w' => e = .returned (.bool (decide (0 ≤ n) && decide (n ≤ 4321439))) ∧ w = w' := by
  go_enter Tryd.func33, Tryd.ntmps33
  go_wp2_with fail
  refine (offWithin_any _ _ _ _).mono ?_
  rintro e w' ⟨rfl, rfl⟩
  generalize hq : (decide (0 ≤ n) && decide (n ≤ 4321439)) = q
  have HQ := Lib.hid hq
  clear hq
  go_wp2_with fail
  go_ret
  exact ⟨ret_bool' HQ.out.symm, rfl⟩
set_option maxHeartbeats 1000000 in
theorem paced_any (b : BudgetD) (n : Int) (w : World) (hl : limB b = true) (h0 : 0 ≤ n) (h9 : n ≤ 4321439) :
    Calls Tryd.prog 53 #[.agg #[.string b.key, .int .i64 b.cents, .int .i64 b.first, .int .i64 b.last, .bool b.pace], .int .i64 n] w fun e w' => e = .returned (.int .i64 (pacedN b n)) ∧ Below w.heap.size w w' := by
  obtain ⟨y1, y2, y3, y4, y5⟩ : 0 ≤ b.cents ∧ b.cents ≤ 1000000000000 ∧ 0 ≤ b.first ∧ b.first ≤ b.last ∧ b.last ≤ 3000 := by
    simp [limB] at hl; omega
  have hq0 : 0 ≤ n.tdiv 1440 := Int.tdiv_nonneg h0 (by omega)
  have hq9 : n.tdiv 1440 ≤ 3001 := by rw [Int.tdiv_eq_ediv_of_nonneg h0]; omega
  clear hl
  by_cases d1 : n.tdiv 1440 < b.first
  · have hv : Hid (pacedN b n = 0) := by show _ = _; simp [pacedN, d1]
    generalize pacedN b n = r at hv
    go_enter Tryd.func53, Tryd.ntmps53
    go_wp2_with fail
    go_ret
    exact ⟨by rw [hv.out]; rfl, (Below.refl _ _).alloc (Nat.le_refl _) _⟩
  · by_cases d2 : b.last ≤ n.tdiv 1440
    · have hv : Hid (pacedN b n = b.cents) := by show _ = _; simp [pacedN, d1, d2]
      generalize pacedN b n = r at hv
      go_enter Tryd.func53, Tryd.ntmps53
      go_wp2_with fail
      go_ret
      exact ⟨by rw [hv.out]; rfl, (Below.refl _ _).alloc (Nat.le_refl _) _⟩
    · cases hp : b.pace with
      | false =>
        have hv : Hid (pacedN b n = b.cents) := by show _ = _; simp [pacedN, d1, hp]
        generalize pacedN b n = r at hv
        clear hp
        go_enter Tryd.func53, Tryd.ntmps53
        go_wp2_with fail
        go_ret
        exact ⟨by rw [hv.out]; rfl, (Below.refl _ _).alloc (Nat.le_refl _) _⟩
      | true =>
        have hv : Hid (pacedN b n = b.cents * (n.tdiv 1440 - b.first + 1) / (b.last - b.first + 1)) := by show _ = _; simp [pacedN, d1, d2, hp]
        generalize pacedN b n = r at hv
        have k1 : 0 ≤ b.cents * (n.tdiv 1440 - b.first + 1) := Int.mul_nonneg y1 (by omega)
        have k2 : b.cents * (n.tdiv 1440 - b.first + 1) ≤ 1000000000000 * 3002 := Int.mul_le_mul y2 (by omega) (by omega) (by omega)
        have k3 : b.last - b.first + 1 ≠ 0 := by omega
        clear hp
        go_enter Tryd.func53, Tryd.ntmps53
        go_wp2_with fail
        go_ret
        exact ⟨by rw [hv.out]; rfl, (Below.refl _ _).alloc (Nat.le_refl _) _⟩
/-- A purse that lies in H: its budgets, its holds, its moment. -/
def PF (H : Frz) (g : Nat) (ds : List BudgetD) (hs : List HoldD) (now : Int) : Prop := ∃ (A : Option Addr) (cap : Nat) (Ah : Option Addr) (caph : Nat),
  H g = some (.cells #[.slice A ds.length cap, .slice Ah hs.length caph, .int .i64 now] 86 (0, 0)) ∧ Rw H A 5 fB ds ∧ Rw H Ah 6 fH hs ∧ ds.length ≤ cap ∧ hs.length ≤ caph ∧ ds.length ≤ 1000000 ∧ hs.length ≤ 1000000
theorem frz3 {H : Frz} {w : World} (h : H.In w) {g : Nat} {x y z : Value} {T : TypeId} (e : H g = some (.cells #[x, y, z] T (0, 0))) :
    w.cell? ⟨g, 0, none⟩ = some x ∧ w.cell? ⟨g, 1, none⟩ = some y ∧ w.cell? ⟨g, 2, none⟩ = some z := by
  have := h _ _ e
  simp [World.cell?, this]
theorem frz6 {H : Frz} {w : World} (h : H.In w) {g : Nat} {x0 x1 x2 x3 x4 x5 : Value} {T : TypeId} (e : H g = some (.cells #[x0, x1, x2, x3, x4, x5] T (0, 0))) :
    w.cell? ⟨g, 0, none⟩ = some x0 ∧ w.cell? ⟨g, 1, none⟩ = some x1 ∧ w.cell? ⟨g, 2, none⟩ = some x2 ∧ w.cell? ⟨g, 3, none⟩ = some x3 ∧ w.cell? ⟨g, 4, none⟩ = some x4 ∧ w.cell? ⟨g, 5, none⟩ = some x5 := by
  have := h _ _ e
  simp [World.cell?, this]
/-- The cents of a key that are taken at a moment. -/
def tkB (key : ByteArray) (n : Int) (h : HoldD) : Bool := (h.key.toList == key.toList) && ((stN h n == 1) || (stN h n == 2))
def takenN (hs : List HoldD) (key : ByteArray) (n : Int) : Int := ((hs.filter (tkB key n)).map (·.cents)).sum
theorem takenN_succ (hs : List HoldD) (key : ByteArray) (n : Int) (i : Nat) (h : i < hs.length) : takenN (hs.take (i + 1)) key n = takenN (hs.take i) key n + (if tkB key n hs[i] then hs[i].cents else 0) := by
  rw [List.take_succ_eq_append_getElem h]
  unfold takenN
  rw [List.filter_append, List.map_append, List.sum_append]
  by_cases e : tkB key n hs[i] = true <;> simp [e]
theorem takenN_bd (hs : List HoldD) (key : ByteArray) (n : Int) (hc : ∀ h ∈ hs, 0 ≤ h.cents ∧ h.cents ≤ 1000000000000) : 0 ≤ takenN hs key n ∧ takenN hs key n ≤ hs.length * 1000000000000 := by
  induction hs with
  | nil => simp [takenN]
  | cons a l ih =>
    have h1 := ih (fun h hm => hc h (List.mem_cons_of_mem _ hm))
    have h2 := hc a (List.mem_cons_self ..)
    unfold takenN at h1 ⊢
    by_cases e : tkB key n a = true
    · simp [e]; omega
    · simp [e]; omega
set_option maxHeartbeats 4000000 in
theorem taken_any (H : Frz) (g : Nat) (ds : List BudgetD) (hs : List HoldD) (now : Int) (hP : PF H g ds hs now) (hc : ∀ h ∈ hs, 0 ≤ h.cents ∧ h.cents ≤ 1000000000000) (key : ByteArray) (n : Int) (w : World) (hH : H.In w) :
    Calls Tryd.prog 52 #[.pointer (some ⟨g, 0, none⟩), .string key, .int .i64 n] w fun e w' => e = .returned (.int .i64 (takenN hs key n)) ∧ Below w.heap.size w w' := by
  obtain ⟨A, cap, Ah, caph, hg, hA, hAh, l1, l2, l3, l4⟩ := hP
  obtain ⟨x0, x1, x2⟩ := frz3 hH hg
  have HR := Lib.hid hAh
  have HH := Lib.hid hH
  have HC := Lib.hid hc
  clear hg hA hAh hH hc
  go_enter Tryd.func52, Tryd.ntmps52
  go_wp2_with fail
  clear x0 x1 x2
  go_loopw [7, 16] (fun t u wr => ∃ i : Nat, i ≤ hs.length ∧ t = .int .i64 (takenN (hs.take i) key n) ∧ u = .int .i64 i ∧ Hid (Below w.heap.size w wr)) (fun _ u _ => hs.length - (intOf u).toNat)
  case atStart => exact ⟨0, by omega, rfl, rfl, Below.refl _ _⟩
  case round =>
    obtain ⟨i, hi, rfl, rfl, hb⟩ := hrel
    by_cases hlt : i < hs.length
    · have hin := HH.out.below hb.out
      obtain ⟨b, off, hA, hbl, hc⟩ := HR.out.at_ hin hlt (by omega)
      subst hA
      have c0 : wr.cell? ⟨b, off + i * 6, none⟩ = some (.int .i64 hs[i].no) := hc 0 (by omega)
      have c1 : wr.cell? ⟨b, off + i * 6 + 1, none⟩ = some (.string hs[i].key) := hc 1 (by omega)
      have c2 : wr.cell? ⟨b, off + i * 6 + 2, none⟩ = some (.int .i64 hs[i].cents) := hc 2 (by omega)
      have c3 : wr.cell? ⟨b, off + i * 6 + 3, none⟩ = some (.int .i64 hs[i].at_) := hc 3 (by omega)
      have c4 : wr.cell? ⟨b, off + i * 6 + 4, none⟩ = some (.int .i64 hs[i].until_) := hc 4 (by omega)
      have c5 : wr.cell? ⟨b, off + i * 6 + 5, none⟩ = some (.int .i64 hs[i].state) := hc 5 (by omega)
      have hsu := Lib.hid (takenN_succ hs key n i hlt)
      have hbd := takenN_bd (hs.take i) key n (fun h hm => HC.out h (List.mem_of_mem_take hm))
      have hlen : (hs.take i).length = i := by simp; omega
      rw [hlen] at hbd
      have hcb := HC.out _ (List.getElem_mem hlt)
      have HIN := Lib.hid hin
      clear hc hlen hin
      generalize hs[i] = d at c0 c1 c2 c3 c4 c5 hsu hcb
      generalize takenN (hs.take i) key n = t at hsu hbd
      generalize ht' : takenN (hs.take (i + 1)) key n = t' at hsu
      have HT := Lib.hid ht'
      clear ht'
      obtain ⟨H2, hl2, hbx, hin2⟩ := HIN.out.put (.cells #[.int .i64 d.no, .string d.key, .int .i64 d.cents, .int .i64 d.at_, .int .i64 d.until_, .int .i64 d.state] 63)
      have hb2 := Lib.hid (hb.out.alloc hb.out.size (.cells #[.int .i64 d.no, .string d.key, .int .i64 d.cents, .int .i64 d.at_, .int .i64 d.until_, .int .i64 d.state] 63))
      have HBX := Lib.hid hbx
      have HIN2 := Lib.hid hin2
      clear hl2 hbx hin2
      have hsu2 : Hid (t' = if (d.key.toList == key.toList) && ((stN d n == 1) || (stN d n == 2)) then t + d.cents else t) := by
        show _ = _
        rw [hsu.out]; unfold tkB
        split <;> simp
      clear hsu
      go_wp2_with fail
      clear c0 c1 c2 c3 c4 c5
      generalize hg : wr.heap.size = q at HBX
      generalize wr.alloc _ = W1 at hb2 HIN2
      refine (stateAt_any d n W1).mono ?_
      rintro e W2 ⟨rfl, hbW2⟩
      have HB3 := Lib.hid (hb2.out.trans (hbW2.mono hb2.out.size))
      have HIN3 := Lib.hid (HIN2.out.below hbW2)
      clear hbW2 hb2 HIN2
      obtain ⟨x0, x1, x2, x3, x4, x5⟩ := frz6 HIN3.out HBX.out
      generalize stN d n = st at hsu2
      by_cases e1 : (d.key.toList == key.toList) = true
      · by_cases e2 : (st == 1) = true
        · rw [e1, e2] at hsu2
          have hv : Hid (t' = t + d.cents) := hsu2
          clear hsu2
          go_wp2_with fail
          go_roundw
          case rel => exact ⟨i + 1, by omega, by rw [HT.out, hv.out], by go_num, HB3⟩
          case measure => simp [intOf]; omega
        · have e2' : (st == 1) = false := by simpa using e2
          by_cases e3 : (st == 2) = true
          · rw [e1, e2', e3] at hsu2
            have hv : Hid (t' = t + d.cents) := hsu2
            clear hsu2 e2
            go_wp2_with fail
            go_roundw
            case rel => exact ⟨i + 1, by omega, by rw [HT.out, hv.out], by go_num, HB3⟩
            case measure => simp [intOf]; omega
          · have e3' : (st == 2) = false := by simpa using e3
            rw [e1, e2', e3'] at hsu2
            have hv : Hid (t' = t) := hsu2
            clear hsu2 e2 e3
            go_wp2_with fail
            go_roundw
            case rel => exact ⟨i + 1, by omega, by rw [HT.out, hv.out], by go_num, HB3⟩
            case measure => simp [intOf]; omega
      · have e1' : (d.key.toList == key.toList) = false := by simpa using e1
        rw [e1'] at hsu2
        have hv : Hid (t' = t) := hsu2
        clear hsu2 e1
        go_wp2_with fail
        go_roundw
        case rel => exact ⟨i + 1, by omega, by rw [HT.out, hv.out], by go_num, HB3⟩
        case measure => simp [intOf]; omega
    · have hie : i = hs.length := by omega
      subst hie
      go_wp2_with fail
      go_ret
      exact ⟨by simp, hb.out⟩
end Go.Proofs.YtecbejmeejepmaaDoor
