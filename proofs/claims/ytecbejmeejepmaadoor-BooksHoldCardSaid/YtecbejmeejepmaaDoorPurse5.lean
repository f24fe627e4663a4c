/- Purses: those that are written: a hold's state turned. -/
import Derived.Test.YtecbejmeejepmaaDoorPurse4
namespace Go.Proofs.YtecbejmeejepmaaDoor
set_option linter.unusedVariables false
open Go.RowKit

structure PS (H : Frz) (W : World) (g : Nat) (ds : List BudgetD) (hs : List HoldD) (now : Int) : Prop where
  ex : ∃ A cap v, W.heap[g]? = some (.cells #[.slice A ds.length cap, v, .int .i64 now] 86 (0, 0)) ∧ Rw H A 5 fB ds ∧ ds.length ≤ cap ∧ Orow W (g + 1) 63 6 fH v hs
  l1 : ds.length ≤ 1000000
  l2 : hs.length ≤ 2000
  under : ∀ b o, H b = some o → b < g
  fin : H.In W
theorem Frz.In.under {H : Frz} {W W' : World} {g : Nat} (h : H.In W) (hu : ∀ b o, H b = some o → b < g) (hb : Below g W W') : H.In W' := fun b o e => (hb.block b (hu b o e)).trans (h b o e)
section
variable {H : Frz} {W W' : World} {g : Nat} {ds : List BudgetD} {hs : List HoldD} {now : Int}
theorem PS.lt (h : PS H W g ds hs now) : g < W.heap.size := by
  obtain ⟨A, cap, v, hg, _⟩ := h.ex
  exact lt_of_heap hg
theorem PS.freeze (h : PS H W g ds hs now) : ∃ H', H.Le H' ∧ H'.In W ∧ PF H' g ds hs now := by
  obtain ⟨A, cap, v, hg, hR, hc, hO⟩ := h.ex
  have hn : H g = none := by
    cases e : H g with
    | none => rfl
    | some o => exact absurd (h.under g o e) (by omega)
  obtain ⟨Ah, caph, H', hv, hch, hIn, hLe, hR', _, _⟩ := hO.freeze (H.add g (.cells #[.slice A ds.length cap, v, .int .i64 now] 86 (0, 0)))
  have hle := hLe (fun q hq => by
    have := (hO.lt hq).1
    rw [Frz.add_other (by omega)]
    cases e : H q with
    | none => rfl
    | some o => exact absurd (h.under q o e) (by omega))
  have hle2 : H.Le H' := (Frz.le_add hn).trans hle
  refine ⟨H', hle2, hIn (h.fin.add hg), A, cap, Ah, caph, ?_, hR.le hle2, hR', hc, hch, h.l1, by have := h.l2; omega⟩
  rw [← hv]
  exact hle _ _ (Frz.add_at _ _ _)
theorem PS.below (h : PS H W g ds hs now) (hb : Below W.heap.size W W') : PS H W' g ds hs now := by
  obtain ⟨A, cap, v, hg, hR, hc, hO⟩ := h.ex
  exact ⟨⟨A, cap, v, (hb.block g (lt_of_heap hg)).trans hg, hR, hc, hO.below hb⟩, h.l1, h.l2, h.under, h.fin.below hb⟩
theorem PS.grown (h : PS H W g ds hs now) {bs : Nat} (hg : W.grownBy W' (some bs)) (hbs : bs < g) (hn : H bs = none) : PS H W' g ds hs now := by
  obtain ⟨A, cap, v, hgb, hR, hc, hO⟩ := h.ex
  exact ⟨⟨A, cap, v, (hg.block g (lt_of_heap hgb) (fun e => by injection e; omega)).trans hgb, hR, hc, hO.far hg (by omega)⟩, h.l1, h.l2, h.under, h.fin.grown hg hn⟩
end
def TurnPost (H : Frz) (g : Nat) (ds : List BudgetD) (hs : List HoldD) (now at_ to : Int) (m : Int → Bool) (W : World) (W' : World) : Prop :=
  ∃ hs' now', PS H W' g ds hs' now' ∧ Below g W W' ∧ ((hs' = hs ∧ now' = now) ∨ (now' = at_ ∧ ∃ i, ∃ h : i < hs.length, m (stN hs[i] at_) = true ∧ hs' = hs.set i { hs[i] with state := to }))
theorem TurnPost.same {H : Frz} {W W' : World} {g : Nat} {ds : List BudgetD} {hs : List HoldD} {now at_ to : Int} {m : Int → Bool} (h : PS H W g ds hs now) (hb : Below W.heap.size W W') : TurnPost H g ds hs now at_ to m W W' :=
  ⟨hs, now, h.below hb, hb.mono (Nat.le_of_lt h.lt), Or.inl ⟨rfl, rfl⟩⟩
/-- The purse behind the two stores. -/
theorem PS.turned {H : Frz} {W : World} {g : Nat} {ds : List BudgetD} {hs : List HoldD} {now : Int} (h : PS H W g ds hs now) {q cap : Nat} {A : Option Addr} {c : Nat} (hg : W.heap[g]? = some (.cells #[.slice A ds.length c, .slice (some ⟨q, 0, none⟩) hs.length cap, .int .i64 now] 86 (0, 0))) {i : Nat} (hi : i < hs.length) (to at_ : Int) :
    PS H ((W.setCell ⟨g, 2, none⟩ (.int .i64 at_)).setCell ⟨q, i * 6 + 5, none⟩ (.int .i64 to)) g ds (hs.set i { hs[i] with state := to }) at_ ∧ Below g W ((W.setCell ⟨g, 2, none⟩ (.int .i64 at_)).setCell ⟨q, i * 6 + 5, none⟩ (.int .i64 to)) := by
  obtain ⟨A', cap', v', hg', hR, hc, hO⟩ := h.ex
  rw [hg] at hg'
  simp at hg'
  obtain ⟨⟨rfl, rfl⟩, rfl⟩ := hg'
  have hne : hs ≠ [] := fun e => by rw [e] at hi; simp at hi
  obtain ⟨q', cap2, rest, hv, hle, hB, hlt, hm, hK, hr⟩ := hO.form hne
  simp only [Value.slice.injEq, Option.some.injEq, Addr.mk.injEq] at hv
  obtain ⟨⟨rfl, _⟩, _, rfl⟩ := hv
  have hqg : q ≠ g := by omega
  have hK1 : KBlk (W.setCell ⟨g, 2, none⟩ (.int .i64 at_)) q 63 6 fH hs rest := (Below.heap_setCell W _ _ q (fun e => hqg e)).trans hK
  have hK2 := hK1.upd i 5 hi (by omega) (d' := { hs[i] with state := to }) (x := .int .i64 to) rfl (fun m hm hne => by
    have hm5 : m = 0 ∨ m = 1 ∨ m = 2 ∨ m = 3 ∨ m = 4 := by omega
    rcases hm5 with rfl | rfl | rfl | rfl | rfl <;> rfl)
  have hB1 : Below g W ((W.setCell ⟨g, 2, none⟩ (.int .i64 at_)).setCell ⟨q, i * 6 + 5, none⟩ (.int .i64 to)) := ((Below.refl g W).setCell (Nat.le_refl _) _).setCell (by show g ≤ q; omega) _
  refine ⟨⟨⟨A, c, _, ?_, hR, hc, Orow.of_blk hK2 hB hm (by simpa using hle) (by simpa using hr)⟩, h.l1, by simpa using h.l2, h.under, h.fin.under h.under hB1⟩, hB1⟩
  refine (Below.heap_setCell _ _ _ g (fun e => hqg e.symm)).trans ?_
  simp [World.setCell, Array.getElem?_modify, hg]
set_option maxHeartbeats 4000000 in
set_option maxRecDepth 20000 in
theorem turn_any (H : Frz) (g : Nat) (ds : List BudgetD) (hs : List HoldD) (now : Int) (W : World) (hP : PS H W g ds hs now) (f : Nat) (m : Int → Bool) (hm : ∀ s W, Calls Tryd.prog f #[.int .i64 s] W fun e W' => e = .returned (.bool (m s)) ∧ W = W') (hcall : ∀ (a : Value) (W : World), (callFunc f #[a]).run Tryd.prog W = .ok (.enter f #[a]) W)
    (no at_ to : Int) (n1 : 1 ≤ no) (n2 : no ≤ 1000) (h0 : 0 ≤ at_) (h9 : at_ ≤ 4321439) (hn : now ≤ at_) :
    Calls Tryd.prog 48 #[.pointer (some ⟨g, 0, none⟩), .int .i64 no, .int .i64 at_, .int .i64 to, .func (.func f) #[] #[]] W fun e W' => (∃ r, e = .returned (.int .i64 r)) ∧ TurnPost H g ds hs now at_ to m W W' := by
  have HP := Lib.hid hP
  obtain ⟨A, cap, v, hg, hR, hc, hO⟩ := hP.ex
  obtain ⟨Ah, caph, rfl, hch⟩ := hO.slice
  have x0 : W.cell? ⟨g, 0, none⟩ = some (.slice A ds.length cap) := by simp [World.cell?, hg]
  have x1 : W.cell? ⟨g, 1, none⟩ = some (.slice Ah hs.length caph) := by simp [World.cell?, hg]
  have x2 : W.cell? ⟨g, 2, none⟩ = some (.int .i64 now) := by simp [World.cell?, hg]
  have f2 : W.frozen? ⟨g, 2, none⟩ = false := by simp [World.frozen?, hg]
  have HG := Lib.hid hg
  have HO := Lib.hid hO
  have HMM := Lib.hid hm
  have hmo : (decide (0 ≤ at_) && decide (at_ ≤ 4321439)) = true := by simp; omega
  have HM := Lib.hid hmo
  have hl2 := hP.l2
  clear hg hR hO hm hmo hP
  go_enter Tryd.func48, Tryd.ntmps48
  go_wp2_with fail
  refine (offWithin_any _ _ _ _).mono ?_
  rintro e w' ⟨rfl, rfl⟩
  by_cases hno : no ≤ hs.length
  · have e1 : (decide (1 ≤ no) && decide (no ≤ (hs.length : Int))) = true := by simp; omega
    rw [e1]
    clear e1
    go_wp2_with fail
    refine (isMoment_any _ _).mono ?_
    rintro e w' ⟨rfl, rfl⟩
    rw [HM.out]
    obtain ⟨i, hi⟩ : ∃ i : Nat, no = (i : Int) + 1 := ⟨(no - 1).toNat, by omega⟩
    subst hi
    have hil : i < hs.length := by omega
    have hne : hs ≠ [] := fun e => by rw [e] at hil; simp at hil
    obtain ⟨q, cp, rest, hv, hle, hB, hq, hmx, hK, hr⟩ := HO.out.form hne
    simp only [Value.slice.injEq] at hv
    obtain ⟨rfl, hlen, rfl⟩ := hv
    clear hlen
    have c0 : W.cell? ⟨q, i * 6, none⟩ = some (.int .i64 hs[i].no) := hK.cell i 0 hil (by omega)
    have c1 : W.cell? ⟨q, i * 6 + 1, none⟩ = some (.string hs[i].key) := hK.cell i 1 hil (by omega)
    have c2 : W.cell? ⟨q, i * 6 + 2, none⟩ = some (.int .i64 hs[i].cents) := hK.cell i 2 hil (by omega)
    have c3 : W.cell? ⟨q, i * 6 + 3, none⟩ = some (.int .i64 hs[i].at_) := hK.cell i 3 hil (by omega)
    have c4 : W.cell? ⟨q, i * 6 + 4, none⟩ = some (.int .i64 hs[i].until_) := hK.cell i 4 hil (by omega)
    have c5 : W.cell? ⟨q, i * 6 + 5, none⟩ = some (.int .i64 hs[i].state) := hK.cell i 5 hil (by omega)
    have HK := Lib.hid hK
    have a1 : IntKind.i64.wrap ((i : Int) + 1 - 1) = (i : Int) := by rw [show (i : Int) + 1 - 1 = i from by omega]; exact IntWalk.i64_in _ (by omega)
    have a2 : (i : Int) + 1 - 1 = (i : Int) := by omega
    have a3 : (i : Int) < hs.length := by omega
    have a4 : (0 : Int) ≤ (i : Int) := by omega
    clear hK hr hle
    go_wp2_with fail
    refine (stateAt_any hs[i] at_ W).mono ?_
    rintro e W1 ⟨rfl, hb1⟩
    have HB1 := Lib.hid hb1
    have HP1 := Lib.hid (HP.out.below hb1)
    have hg1 : W1.heap[g]? = some (.cells #[.slice A ds.length cap, .slice (some ⟨q, 0, none⟩) hs.length caph, .int .i64 now] 86 (0, 0)) := (hb1.block g HP.out.lt).trans HG.out
    have hK1 := HK.out.keep hb1
    clear x0 x1 x2 f2 c0 c1 c2 c3 c4 c5 hb1
    have x0 : W1.cell? ⟨g, 0, none⟩ = some (.slice A ds.length cap) := by simp [World.cell?, hg1]
    have x1 : W1.cell? ⟨g, 1, none⟩ = some (.slice (some ⟨q, 0, none⟩) hs.length caph) := by simp [World.cell?, hg1]
    have x2 : W1.cell? ⟨g, 2, none⟩ = some (.int .i64 now) := by simp [World.cell?, hg1]
    have f2 : W1.frozen? ⟨g, 2, none⟩ = false := by simp [World.frozen?, hg1]
    have c5 : W1.cell? ⟨q, i * 6 + 5, none⟩ = some (.int .i64 hs[i].state) := hK1.cell i 5 hil (by omega)
    have f5 := hK1.frozen (i * 6 + 5)
    have hqg : ¬ q = g := by omega
    have hgq : ¬ g = q := by omega
    have HT := Lib.hid (fun h : m (stN hs[i] at_) = true => (show TurnPost H g ds hs now at_ to m W _ from ⟨_, at_, (HP1.out.turned hg1 hil to at_).1, (HB1.out.mono (Nat.le_of_lt HP.out.lt)).trans (HP1.out.turned hg1 hil to at_).2, Or.inr ⟨rfl, i, hil, h, rfl⟩⟩))
    have HSM := Lib.hid (TurnPost.same (to := to) (at_ := at_) (m := m) HP.out HB1.out)
    clear hg1 hK1
    generalize stN hs[i] at_ = sa at HT
    go_wp2_with fail
    refine (HMM.out sa W1).mono ?_
    rintro e w' ⟨rfl, rfl⟩
    generalize hms : m sa = b at HT
    have HMS := Lib.hid hms
    clear hms
    cases b with
    | true =>
      have HT2 := Lib.hid (HT.out rfl)
      clear HT
      go_wp2_with fail
      go_ret
      exact ⟨⟨_, rfl⟩, HT2.out⟩
    | false =>
      go_wp2_with fail
      go_ret
      exact ⟨⟨_, rfl⟩, HSM.out⟩
  · have e1 : (decide (1 ≤ no) && decide (no ≤ (hs.length : Int))) = false := by simp; omega
    rw [e1]
    clear e1
    have HSM := Lib.hid (TurnPost.same (to := to) (at_ := at_) (m := m) HP.out (Below.refl _ _))
    go_wp2_with fail
    go_ret
    exact ⟨⟨_, rfl⟩, HSM.out⟩
set_option maxHeartbeats 1000000 in
theorem commit_any (H : Frz) (g : Nat) (ds : List BudgetD) (hs : List HoldD) (now : Int) (W : World) (hP : PS H W g ds hs now) (no at_ : Int) (n1 : 1 ≤ no) (n2 : no ≤ 1000) (h0 : 0 ≤ at_) (h9 : at_ ≤ 4321439) (hn : now ≤ at_) :
    Calls Tryd.prog 22 #[.pointer (some ⟨g, 0, none⟩), .int .i64 no, .int .i64 at_] W fun e W' => (∃ r, e = .returned (.int .i64 r)) ∧ TurnPost H g ds hs now at_ 2 (fun s => s == 1) W W' := by
  have HP := Lib.hid hP
  clear hP
  have hm : Hid (∀ s W, Calls Tryd.prog 49 #[.int .i64 s] W fun e W' => e = .returned (.bool (s == 1)) ∧ W = W') := by
    intro s W
    generalize hq : (s == 1) = q
    go_enter Tryd.func49, Tryd.ntmps49
    go_wp2_with fail
    go_ret
    exact ⟨rfl, rfl⟩
  go_enter Tryd.func22, Tryd.ntmps22
  go_wp2_with fail
  refine (turn_any H g ds hs now W HP.out 49 (fun s => s == 1) hm.out (fun _ _ => by kernel_rfl) no at_ 2 n1 n2 h0 h9 hn).mono ?_
  rintro e W' ⟨⟨r, rfl⟩, ht⟩
  have HT := Lib.hid ht
  clear ht
  go_wp2_with fail
  go_ret
  exact ⟨⟨_, rfl⟩, HT.out⟩
set_option maxHeartbeats 1000000 in
theorem release_any (H : Frz) (g : Nat) (ds : List BudgetD) (hs : List HoldD) (now : Int) (W : World) (hP : PS H W g ds hs now) (no at_ : Int) (n1 : 1 ≤ no) (n2 : no ≤ 1000) (h0 : 0 ≤ at_) (h9 : at_ ≤ 4321439) (hn : now ≤ at_) :
    Calls Tryd.prog 23 #[.pointer (some ⟨g, 0, none⟩), .int .i64 no, .int .i64 at_] W fun e W' => (∃ r, e = .returned (.int .i64 r)) ∧ TurnPost H g ds hs now at_ 3 (fun s => s == 1 || s == 2) W W' := by
  have HP := Lib.hid hP
  clear hP
  have hm : Hid (∀ s W, Calls Tryd.prog 50 #[.int .i64 s] W fun e W' => e = .returned (.bool (s == 1 || s == 2)) ∧ W = W') := by
    intro s W
    generalize h1 : (s == 1) = q1
    generalize h2 : (s == 2) = q2
    cases q1 with
    | true =>
      go_enter Tryd.func50, Tryd.ntmps50
      go_wp2_with fail
      go_ret
      exact ⟨rfl, rfl⟩
    | false =>
      go_enter Tryd.func50, Tryd.ntmps50
      go_wp2_with fail
      go_ret
      exact ⟨rfl, rfl⟩
  go_enter Tryd.func23, Tryd.ntmps23
  go_wp2_with fail
  refine (turn_any H g ds hs now W HP.out 50 (fun s => s == 1 || s == 2) hm.out (fun _ _ => by kernel_rfl) no at_ 3 n1 n2 h0 h9 hn).mono ?_
  rintro e W' ⟨⟨r, rfl⟩, ht⟩
  have HT := Lib.hid ht
  clear ht
  go_wp2_with fail
  go_ret
  exact ⟨⟨_, rfl⟩, HT.out⟩
end Go.Proofs.YtecbejmeejepmaaDoor
