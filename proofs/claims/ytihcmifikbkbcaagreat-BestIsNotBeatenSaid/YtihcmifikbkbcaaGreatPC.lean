/- Texts of this claim, put together: StabPcA, StabPcB, StabPcC1, StabPcC2, StabPcC3, StabPcC, StabPcD. -/
import Derived.Test.YtihcmifikbkbcaaGreatPA
import Derived.Test.YtihcmifikbkbcaaGreatPB
import Derived.StillTailTactics
import Derived.Deep.Cut
import Derived.Deep.DeepCutAuto
/- SortStableFunc at elements of 2 cells: the state; two stretches exchanged; a rotation. -/
namespace Go.Proofs.YtihcmifikbkbcaaGreat
set_option linter.unusedVariables false
open Go.RowKit
section
variable {D : Type}
/-- What the sort is told. -/
structure SC (H : Frz) (f : D → Nat → Value) (kf : Nat) (caps : List Value) (c : D → D → Int) (ds : List D) (g n cap : Nat) : Prop where
  one : ∀ d ∈ ds, ∀ m, (f d m).oneCell' = true
  cmp : ∀ (W : World) (a b : D), H.In W → a ∈ ds → b ∈ ds → Calls Tryz.prog kf ((.agg #[f a 0, f a 1]) :: (.agg #[f b 0, f b 1]) :: caps).toArray W fun e W' => e = .returned (.int .i64 (c a b)) ∧ Below W.heap.size W W'
  call : ∀ (a b : Value) (W : World), (callFunc kf (a :: b :: caps).toArray).run Tryz.prog W = .ok (.enter kf (a :: b :: caps).toArray) W
  len : ds.length = n
  cap : n ≤ cap
  small : n ≤ 100000
  no : H g = none
/-- The sort's state. -/
structure ST (H : Frz) (g T k : Nat) (f : D → Nat → Value) (rest : List Value) (w : World) (ds ys : List D) (W : World) : Prop where
  blk : KBlk W g T k f ys rest
  grown : w.grownBy W (some g)
  inn : H.In W
  perm : ys.Perm ds
section
variable {H : Frz} {g T k : Nat} {f : D → Nat → Value} {rest : List Value} {w W W' : World} {ds ys : List D}
theorem ST.len (h : ST H g T k f rest w ds ys W) : ys.length = ds.length := h.perm.length_eq
theorem ST.mem (h : ST H g T k f rest w ds ys W) {d : D} (hd : d ∈ ys) : d ∈ ds := h.perm.mem_iff.1 hd
theorem ST.below (h : ST H g T k f rest w ds ys W) (hb : Below W.heap.size W W') : ST H g T k f rest w ds ys W' := ⟨h.blk.keep hb, grown_below h.grown hb, h.inn.below hb, h.perm⟩
end
set_option maxHeartbeats 4000000 in
set_option maxRecDepth 100000 in
theorem swapRange_Pc {H : Frz} {f : D → Nat → Value} {kf : Nat} {caps : List Value} {c : D → D → Int} {ds : List D} {g n cap : Nat} {rest : List Value} {w : World} (hc : SC H f kf caps c ds g n cap) (a b m : Nat) (ha : a + m ≤ n) (hb : b + m ≤ n) (hab : a < b) (ys : List D) (W : World) (hS : ST H g 163 2 f rest w ds ys W) :
    Calls Tryz.prog 152 #[.slice (some ⟨g, 0, none⟩) n cap, .int .i64 a, .int .i64 b, .int .i64 m, .func (.func kf) #[] caps.toArray] W fun e W' => e = .returned (.tuple #[]) ∧ ST H g 163 2 f rest w ds (swR a b m ys) W' := by
  have HC := Lib.hid hc
  have hl := hc.len
  have hsm := hc.small
  have hcap := hc.cap
  have HS := Lib.hid hS
  have HL := Lib.hid hl
  clear hc hS hl
  go_enter Tryz.func152, Tryz.ntmps152
  go_wp2_with fail
  go_loopw [10] (fun t wr => ∃ (i : Nat) (zs : List D), i ≤ m ∧ t = .int .i64 i ∧ Hid (upF (fun i l => swp l (a + i) (b + i)) (m - i) i zs = swR a b m ys) ∧ Hid (ST H g 163 2 f rest w ds zs wr)) (fun t _ => m - (intOf t).toNat)
  case atStart => exact ⟨0, ys, by omega, rfl, rfl, HS⟩
  case round =>
    obtain ⟨i, zs, hi, rfl, hF, J⟩ := hrel
    clear HS
    by_cases hlt : i < m
    · have hlt2 : (i : Int) < (m : Int) := by omega
      obtain ⟨q, hq⟩ : ∃ q, m - i = q + 1 := ⟨m - i - 1, by omega⟩
      have HF2 : Hid (upF (fun i l => swp l (a + i) (b + i)) (m - (i + 1)) (i + 1) (swp zs (a + i) (b + i)) = swR a b m ys) := by
        have := hF.out
        rw [hq] at this
        rw [show m - (i + 1) = q from by omega]
        exact this
      clear hF hq
      obtain ⟨p, hp⟩ : ∃ p, p = a + i := ⟨_, rfl⟩
      obtain ⟨r, hr⟩ : ∃ r, r = b + i := ⟨_, rfl⟩
      rw [← hp, ← hr] at HF2
      have a1 : IntKind.i64.wrap ((a : Int) + (i : Int)) = (p : Int) := by rw [show (a : Int) + (i : Int) = p from by omega]; exact IntWalk.i64_in _ (by omega)
      have b1 : IntKind.i64.wrap ((b : Int) + (i : Int)) = (r : Int) := by rw [show (b : Int) + (i : Int) = r from by omega]; exact IntWalk.i64_in _ (by omega)
      have a2 : (a : Int) + (i : Int) = (p : Int) := by omega
      have b2 : (b : Int) + (i : Int) = (r : Int) := by omega
      have a3 : (p : Int) < n := by omega
      have b3 : (r : Int) < n := by omega
      have a4 : (0 : Int) ≤ (p : Int) := by omega
      have b4 : (0 : Int) ≤ (r : Int) := by omega
      have hpr : p < r := by omega
      have hpn : p < n := by omega
      have hrn : r < n := by omega
      have hjl : ds.length = n := HL.out
      clear hp hr
      have hI : p < zs.length := by rw [J.out.len, hjl]; omega
      have hJ : r < zs.length := by rw [J.out.len, hjl]; omega
      have c0 : wr.cell? ⟨g, p * 2, none⟩ = some (f zs[p] 0) := J.out.blk.cell p 0 hI (by omega)
      have c1 : wr.cell? ⟨g, p * 2 + 1, none⟩ = some (f zs[p] 1) := J.out.blk.cell p 1 hI (by omega)
      have d0 : wr.cell? ⟨g, r * 2, none⟩ = some (f zs[r] 0) := J.out.blk.cell r 0 hJ (by omega)
      have d1 : wr.cell? ⟨g, r * 2 + 1, none⟩ = some (f zs[r] 1) := J.out.blk.cell r 1 hJ (by omega)
      have fc0 := J.out.blk.frozen (p * 2)
      have fc1 := J.out.blk.frozen (p * 2 + 1)
      have fd0 := J.out.blk.frozen (r * 2)
      have fd1 := J.out.blk.frozen (r * 2 + 1)
      have HXM := Lib.hid (J.out.mem (List.getElem_mem hI))
      have HYM := Lib.hid (J.out.mem (List.getElem_mem hJ))
      have HSW : Hid (swp zs p r = (zs.set p zs[r]).set r zs[p]) := swp_at hI hJ
      have HPM := Lib.hid (swp_perm zs p r)
      have HZ := Lib.hid ((J.out.blk.put p hI zs[r]).put r (by simpa using hJ) zs[p])
      generalize zs[p] = x at *
      generalize zs[r] = y at *
      clear hI hJ
      have na0 : ¬ p * 2 = r * 2 := by omega
      have nb0 : ¬ r * 2 = p * 2 := by omega
      have na1 : ¬ p * 2 = r * 2 + 1 := by omega
      have nb1 : ¬ r * 2 + 1 = p * 2 := by omega
      have na2 : ¬ p * 2 + 1 = r * 2 := by omega
      have nb2 : ¬ r * 2 = p * 2 + 1 := by omega
      have na3 : ¬ p * 2 + 1 = r * 2 + 1 := by omega
      have nb3 : ¬ r * 2 + 1 = p * 2 + 1 := by omega
      have hst : ∀ (m : Nat) (ad : Addr) (mo : Mode) (W : World), Sem.run Tryz.prog (store ad (f x m) mo) W = stored Tryz.prog W ad (f x m) mo := fun m ad mo W => run_store _ W ad _ mo (HC.out.one x HXM.out m)
      have hst' : ∀ (m : Nat) (ad : Addr) (mo : Mode) (W : World), Sem.run Tryz.prog (store ad (f y m) mo) W = stored Tryz.prog W ad (f y m) mo := fun m ad mo W => run_store _ W ad _ mo (HC.out.one y HYM.out m)
      go_upto_region 2 with (fail)
      go_region
      clear hst hst'
      have HN : Hid (ST H g 163 2 f rest w ds (swp zs p r) (World.drew (setK (setK wr g (p * 2) ((List.range 2).map (f y))) g (r * 2) ((List.range 2).map (f x))))) := by
        show ST _ _ _ _ _ _ _ _ _ _
        rw [HSW.out]
        exact ⟨HZ.out, grown_drew (setK_grown _ _ (setK_grown _ _ J.out.grown)), setK_in _ _ (setK_in _ _ J.out.inn HC.out.no) HC.out.no, by rw [← HSW.out]; exact HPM.out.trans J.out.perm⟩
      clear c0 c1 d0 d1 fc0 fc1 fd0 fd1 na0 nb0 na1 nb1 na2 nb2 na3 nb3 HZ HSW HPM HXM HYM J
      clear a1 b1 a2 b2 a3 b3 a4 b4
      go_wp2_with fail
      refine ⟨⟨i + 1, _, by omega, by go_num, HF2, HN⟩, ?_⟩
      simp only [intOf]
      omega
    · have HE : Hid (ST H g 163 2 f rest w ds (swR a b m ys) wr) := by
        have := hF.out
        rw [show m - i = 0 from by omega] at this
        show ST _ _ _ _ _ _ _ _ _ _
        rw [← this]
        exact J.out
      go_wp2_with fail
      go_end0
      exact ⟨rfl, HE.out⟩
set_option maxHeartbeats 4000000 in
set_option maxRecDepth 100000 in
theorem rotate_Pc {H : Frz} {f : D → Nat → Value} {kf : Nat} {caps : List Value} {c : D → D → Int} {ds : List D} {g n cap : Nat} {rest : List Value} {w : World} (hc : SC H f kf caps c ds g n cap) (a m b : Nat) (ham : a < m) (hmb : m < b) (hb : b ≤ n) (ys : List D) (W : World) (hS : ST H g 163 2 f rest w ds ys W) :
    Calls Tryz.prog 150 #[.slice (some ⟨g, 0, none⟩) n cap, .int .i64 a, .int .i64 m, .int .i64 b, .func (.func kf) #[] caps.toArray] W fun e W' => e = .returned (.tuple #[]) ∧ ST H g 163 2 f rest w ds (rotF m (m - a + (b - m)) (m - a) (b - m) ys) W' := by
  have HSR := Lib.hid (fun a b m ha hb hab ys W hS => swapRange_Pc (rest := rest) (w := w) hc a b m ha hb hab ys W hS)
  have hl := hc.len
  have hsm := hc.small
  have hcap := hc.cap
  have HS := Lib.hid hS
  clear hc hS
  have a1 : IntKind.i64.wrap ((m : Int) - (a : Int)) = ((m - a : Nat) : Int) := by rw [show (m : Int) - (a : Int) = ((m - a : Nat) : Int) from by omega]; exact IntWalk.i64_in _ (by omega)
  have a2 : (m : Int) - (a : Int) = ((m - a : Nat) : Int) := by omega
  have b1 : IntKind.i64.wrap ((b : Int) - (m : Int)) = ((b - m : Nat) : Int) := by rw [show (b : Int) - (m : Int) = ((b - m : Nat) : Int) from by omega]; exact IntWalk.i64_in _ (by omega)
  have b2 : (b : Int) - (m : Int) = ((b - m : Nat) : Int) := by omega
  go_enter Tryz.func150, Tryz.ntmps150
  go_wp2_with fail
  clear a1 a2 b1 b2
  go_loopw [10, 11] (fun t u wr => ∃ (i j q : Nat) (zs : List D), 1 ≤ i ∧ 1 ≤ j ∧ i ≤ m ∧ m + j ≤ n ∧ i + j ≤ q ∧ t = .int .i64 i ∧ u = .int .i64 j ∧ Hid (rotF m q i j zs = rotF m (m - a + (b - m)) (m - a) (b - m) ys) ∧ Hid (ST H g 163 2 f rest w ds zs wr)) (fun t u _ => (intOf t).toNat + (intOf u).toNat)
  case atStart => exact ⟨m - a, b - m, m - a + (b - m), ys, by omega, by omega, by omega, by omega, by omega, rfl, rfl, rfl, HS⟩
  case round =>
    obtain ⟨i, j, q, zs, hi1, hj1, him, hjn, hq, rfl, rfl, hF, J⟩ := hrel
    clear HS
    obtain ⟨q, rfl⟩ : ∃ k, q = k + 1 := ⟨q - 1, by omega⟩
    obtain ⟨p, hp⟩ : ∃ p, p = m - i := ⟨_, rfl⟩
    have a1 : IntKind.i64.wrap ((m : Int) - (i : Int)) = (p : Int) := by rw [show (m : Int) - (i : Int) = p from by omega]; exact IntWalk.i64_in _ (by omega)
    have a2 : (m : Int) - (i : Int) = (p : Int) := by omega
    rcases Nat.lt_trichotomy i j with hij | hij | hij
    · have k1 : ((i : Int) != (j : Int)) = true := by simp; omega
      have k2 : decide ((j : Int) < (i : Int)) = false := by simp; omega
      obtain ⟨r, hr⟩ : ∃ r, r = m + j - i := ⟨_, rfl⟩
      obtain ⟨d, hd⟩ : ∃ d, d = j - i := ⟨_, rfl⟩
      have b0 : IntKind.i64.wrap ((m : Int) + (j : Int)) = ((m + j : Nat) : Int) := by rw [show (m : Int) + (j : Int) = ((m + j : Nat) : Int) from by omega]; exact IntWalk.i64_in _ (by omega)
      have b1 : IntKind.i64.wrap ((m : Int) + (j : Int) - (i : Int)) = (r : Int) := by rw [show (m : Int) + (j : Int) - (i : Int) = r from by omega]; exact IntWalk.i64_in _ (by omega)
      have b2 : (m : Int) + (j : Int) - (i : Int) = (r : Int) := by omega
      have d1 : IntKind.i64.wrap ((j : Int) - (i : Int)) = (d : Int) := by rw [show (j : Int) - (i : Int) = d from by omega]; exact IntWalk.i64_in _ (by omega)
      have d2 : (j : Int) - (i : Int) = (d : Int) := by omega
      have HF2 : Hid (rotF m q i d (swR p r i zs) = rotF m (m - a + (b - m)) (m - a) (b - m) ys) := by
        have := hF.out
        rw [rotF_lt hij, ← hp, ← hr, ← hd] at this
        exact this
      have HSW := Lib.hid (HSR.out p r i (by omega) (by omega) (by omega) zs _ J.out)
      have q1 : p + i ≤ n := by omega
      have q2 : 1 ≤ d := by omega
      have q3 : i + d ≤ q := by omega
      have q4 : m + d ≤ n := by omega
      have q5 : i + d < i + j := by omega
      clear hF J hp hr hd b0
      go_wp2_with fail
      refine HSW.out.mono ?_
      rintro e W2 ⟨rfl, hs⟩
      have HS2 := Lib.hid hs
      clear hs HSW
      go_wp2_with fail
      clear a1 a2 b1 b2 d1 d2 k1 k2
      go_roundw
      case rel => exact ⟨i, d, q, _, by omega, by omega, by omega, by omega, by omega, rfl, rfl, HF2, HS2⟩
      case measure => simp [intOf]; omega
    · subst hij
      have k1 : ((i : Int) != (i : Int)) = false := by simp
      have HE : Hid (∀ W', ST H g 163 2 f rest w ds (swR p m i zs) W' → ST H g 163 2 f rest w ds (rotF m (m - a + (b - m)) (m - a) (b - m) ys) W') := by
        intro W' h
        rw [← hF.out, rotF_eq, ← hp]
        exact h
      have HSW := Lib.hid (HSR.out p m i (by omega) (by omega) (by omega) zs _ J.out)
      clear hF J hp
      go_wp2_with fail
      refine HSW.out.mono ?_
      rintro e W2 ⟨rfl, hs⟩
      have HF := Lib.hid (HE.out _ hs)
      clear hs HSW HE
      go_wp2_with fail
      go_end0
      exact ⟨rfl, HF.out⟩
    · have k1 : ((i : Int) != (j : Int)) = true := by simp; omega
      have k2 : decide ((j : Int) < (i : Int)) = true := by simp; omega
      obtain ⟨d, hd⟩ : ∃ d, d = i - j := ⟨_, rfl⟩
      have d1 : IntKind.i64.wrap ((i : Int) - (j : Int)) = (d : Int) := by rw [show (i : Int) - (j : Int) = d from by omega]; exact IntWalk.i64_in _ (by omega)
      have d2 : (i : Int) - (j : Int) = (d : Int) := by omega
      have HF2 : Hid (rotF m q d j (swR p m j zs) = rotF m (m - a + (b - m)) (m - a) (b - m) ys) := by
        have := hF.out
        rw [rotF_gt hij, ← hp, ← hd] at this
        exact this
      have HSW := Lib.hid (HSR.out p m j (by omega) (by omega) (by omega) zs _ J.out)
      have q2 : 1 ≤ d := by omega
      have q3 : d + j ≤ q := by omega
      have q4 : d ≤ m := by omega
      have q5 : d + j < i + j := by omega
      clear hF J hp hd
      go_wp2_with fail
      refine HSW.out.mono ?_
      rintro e W2 ⟨rfl, hs⟩
      have HS2 := Lib.hid hs
      clear hs HSW
      go_wp2_with fail
      clear a1 a2 d1 d2 k1 k2
      go_roundw
      case rel => exact ⟨d, j, q, _, by omega, by omega, by omega, by omega, by omega, rfl, rfl, HF2, HS2⟩
      case measure => simp [intOf]; omega
end
end Go.Proofs.YtihcmifikbkbcaaGreat

/- Insertion sort of a stretch, at elements of 2 cells. -/
namespace Go.Proofs.YtihcmifikbkbcaaGreat
set_option linter.unusedVariables false
open Go.RowKit
section
variable {D : Type}
set_option maxHeartbeats 4000000 in
set_option maxRecDepth 100000 in
theorem insB_Pc {H : Frz} {f : D → Nat → Value} {kf : Nat} {caps : List Value} {c : D → D → Int} {ds : List D} {g n cap : Nat} {rest : List Value} {w : World} (hc : SC H f kf caps c ds g n cap) (a b : Nat) (hab : a ≤ b) (hb : b ≤ n) (ys : List D) (W : World) (hS : ST H g 163 2 f rest w ds ys W) :
    Calls Tryz.prog 145 #[.slice (some ⟨g, 0, none⟩) n cap, .int .i64 a, .int .i64 b, .func (.func kf) #[] caps.toArray] W fun e W' => e = .returned (.tuple #[]) ∧ ST H g 163 2 f rest w ds (insB (fun a b => decide (c a b < 0)) a b ys) W' := by
  have HC := Lib.hid hc
  have HL := Lib.hid hc.len
  have hsm := hc.small
  have hcap := hc.cap
  have hcall := hc.call
  have HS := Lib.hid hS
  clear hc hS
  have a1 : IntKind.i64.wrap ((a : Int) + 1) = ((a + 1 : Nat) : Int) := by rw [show (a : Int) + 1 = ((a + 1 : Nat) : Int) from by omega]; exact IntWalk.i64_in _ (by omega)
  go_enter Tryz.func145, Tryz.ntmps145
  go_wp2_with fail
  clear a1
  go_loopw [8] (fun t wr => ∃ (i : Nat) (zs : List D), a + 1 ≤ i ∧ (i ≤ b ∨ i = a + 1) ∧ t = .int .i64 i ∧ Hid (upF (insJ (fun a b => decide (c a b < 0)) a) (b - i) i zs = insB (fun a b => decide (c a b < 0)) a b ys) ∧ Hid (ST H g 163 2 f rest w ds zs wr)) (fun t _ => b + 1 - (intOf t).toNat)
  case atStart => exact ⟨a + 1, ys, by omega, by omega, by go_num, rfl, HS⟩
  case round =>
    obtain ⟨i, zs, hi1, hi2, rfl, hF, J⟩ := hrel
    clear HS
    by_cases hlt : i < b
    · obtain ⟨q, hq⟩ : ∃ q, b - i = q + 1 := ⟨b - i - 1, by omega⟩
      have HF2 : Hid (upF (insJ (fun a b => decide (c a b < 0)) a) (b - (i + 1)) (i + 1) (insJ (fun a b => decide (c a b < 0)) a i zs) = insB (fun a b => decide (c a b < 0)) a b ys) := by
        have := hF.out
        rw [hq] at this
        rw [show b - (i + 1) = q from by omega]
        exact this
      clear hF hq
      obtain ⟨wo, rfl⟩ : ∃ wo : World, wo = wr := ⟨_, rfl⟩
      go_wp2_with fail
      go_loopw [9] (fun t wi => ∃ (j : Nat) (xs : List D), a ≤ j ∧ j ≤ i ∧ t = .int .i64 j ∧ Hid (insJ (fun a b => decide (c a b < 0)) a j xs = insJ (fun a b => decide (c a b < 0)) a i zs) ∧ Hid (ST H g 163 2 f rest w ds xs wi)) (fun t _ => (intOf t).toNat)
      case atStart => exact ⟨i, zs, by omega, by omega, rfl, rfl, J⟩
      case round =>
        obtain ⟨j, xs, hj1, hj2, rfl, hG, Ji⟩ := hrel
        clear J
        by_cases hj0 : a < j
        · obtain ⟨p, hp⟩ : ∃ p, j = p + 1 := ⟨j - 1, by omega⟩
          have hjn : j < n := by omega
          have hl := HL.out
          have hI : j < xs.length := by rw [Ji.out.len]; omega
          have hJ : p < xs.length := by rw [Ji.out.len]; omega
          have c0 : wr.cell? ⟨g, j * 2, none⟩ = some (f xs[j] 0) := Ji.out.blk.cell j 0 hI (by omega)
          have c1 : wr.cell? ⟨g, j * 2 + 1, none⟩ = some (f xs[j] 1) := Ji.out.blk.cell j 1 hI (by omega)
          have d0 : wr.cell? ⟨g, p * 2, none⟩ = some (f xs[p] 0) := Ji.out.blk.cell p 0 hJ (by omega)
          have d1 : wr.cell? ⟨g, p * 2 + 1, none⟩ = some (f xs[p] 1) := Ji.out.blk.cell p 1 hJ (by omega)
          have HXM := Lib.hid (Ji.out.mem (List.getElem_mem hI))
          have HYM := Lib.hid (Ji.out.mem (List.getElem_mem hJ))
          have HSTEP : Hid (insJ (fun a b => decide (c a b < 0)) a j xs = if c xs[j] xs[p] < 0 then insJ (fun a b => decide (c a b < 0)) a p (swp xs j p) else xs) := by
            subst hp
            show _ = _
            rw [insJ, ltAt_at hI hJ]
            by_cases h : c xs[p + 1] xs[p] < 0
            · rw [if_pos h, if_pos ⟨hj0, by simpa using h⟩]
            · rw [if_neg h, if_neg (fun hh => h (by simpa using hh.2))]
          have e2 : IntKind.i64.wrap ((j : Int) - 1) = (p : Int) := by rw [show (j : Int) - 1 = (p : Int) from by omega]; exact IntWalk.i64_in _ (by omega)
          have e2' : (j : Int) - 1 = (p : Int) := by omega
          have e8 : IntKind.i64.wrap (p : Int) = (p : Int) := IntWalk.i64_in _ (by omega)
          have HPJ := Lib.hid e2'
          have e3 : (p : Int) < n := by omega
          have e4 : (j : Int) < n := by omega
          have e5 : (0 : Int) ≤ (p : Int) := by omega
          have e6 : (0 : Int) ≤ (j : Int) := by omega
          have e7 : (a : Int) < (j : Int) := by omega
          have hpj : p < j := by omega
          have hap : a ≤ p := by omega
          have hpi : p ≤ i := by omega
          have hpn : p < n := by omega
          have HXE := Lib.hid (Ji.out.blk)
          clear hp
          generalize hx : xs[j] = x at *
          generalize hy : xs[p] = y at *
          have HX := Lib.hid hx
          have HY := Lib.hid hy
          clear hx hy HXE
          go_wp2_with fail
          go_still_tail 14, (by kernel_rfl)
          change wpList _ _ _ _ _ wr.drew
          go_wp2_with fail
          refine (HC.out.cmp wr.drew x y Ji.out.inn HXM.out HYM.out).mono ?_
          rintro e w1 ⟨rfl, hb1⟩
          have J1 := Lib.hid (Ji.out.below (W' := w1) ((Below.refl _ wr).drew.trans hb1))
          clear c0 c1 d0 d1 Ji hb1 hI hJ HX HY HXM HYM
          by_cases hr : c x y < 0
          · have HS2 : Hid (insJ (fun a b => decide (c a b < 0)) a p (swp xs j p) = insJ (fun a b => decide (c a b < 0)) a i zs) := by
              have := hG.out
              rw [HSTEP.out, if_pos hr] at this
              exact this
            clear hG HSTEP
            have hI : j < xs.length := by rw [J1.out.len, hl]; omega
            have hJ : p < xs.length := by rw [J1.out.len, hl]; omega
            have c0 : w1.cell? ⟨g, j * 2, none⟩ = some (f xs[j] 0) := J1.out.blk.cell j 0 hI (by omega)
            have c1 : w1.cell? ⟨g, j * 2 + 1, none⟩ = some (f xs[j] 1) := J1.out.blk.cell j 1 hI (by omega)
            have d0 : w1.cell? ⟨g, p * 2, none⟩ = some (f xs[p] 0) := J1.out.blk.cell p 0 hJ (by omega)
            have d1 : w1.cell? ⟨g, p * 2 + 1, none⟩ = some (f xs[p] 1) := J1.out.blk.cell p 1 hJ (by omega)
            have fc0 := J1.out.blk.frozen (j * 2)
            have fc1 := J1.out.blk.frozen (j * 2 + 1)
            have fd0 := J1.out.blk.frozen (p * 2)
            have fd1 := J1.out.blk.frozen (p * 2 + 1)
            have HXM := Lib.hid (J1.out.mem (List.getElem_mem hI))
            have HYM := Lib.hid (J1.out.mem (List.getElem_mem hJ))
            have HSW : Hid (swp xs j p = (xs.set j xs[p]).set p xs[j]) := swp_at hI hJ
            have HPM := Lib.hid (swp_perm xs j p)
            have HZ := Lib.hid ((J1.out.blk.put j hI xs[p]).put p (by simpa using hJ) xs[j])
            generalize xs[j] = x at *
            generalize xs[p] = y at *
            clear hI hJ
            have na0 : ¬ j * 2 = p * 2 := by omega
            have nb0 : ¬ p * 2 = j * 2 := by omega
            have na1 : ¬ j * 2 = p * 2 + 1 := by omega
            have nb1 : ¬ p * 2 + 1 = j * 2 := by omega
            have na2 : ¬ j * 2 + 1 = p * 2 := by omega
            have nb2 : ¬ p * 2 = j * 2 + 1 := by omega
            have na3 : ¬ j * 2 + 1 = p * 2 + 1 := by omega
            have nb3 : ¬ p * 2 + 1 = j * 2 + 1 := by omega
            have hst : ∀ (m : Nat) (ad : Addr) (mo : Mode) (W : World), Sem.run Tryz.prog (store ad (f x m) mo) W = stored Tryz.prog W ad (f x m) mo := fun m ad mo W => run_store _ W ad _ mo (HC.out.one x HXM.out m)
            have hst' : ∀ (m : Nat) (ad : Addr) (mo : Mode) (W : World), Sem.run Tryz.prog (store ad (f y m) mo) W = stored Tryz.prog W ad (f y m) mo := fun m ad mo W => run_store _ W ad _ mo (HC.out.one y HYM.out m)
            go_upto_region 6 with (fail)
            go_region
            clear hst hst'
            have HN : Hid (ST H g 163 2 f rest w ds (swp xs j p) (World.drew (setK (setK w1 g (j * 2) ((List.range 2).map (f y))) g (p * 2) ((List.range 2).map (f x))))) := by
              show ST _ _ _ _ _ _ _ _ _ _
              rw [HSW.out]
              exact ⟨HZ.out, grown_drew (setK_grown _ _ (setK_grown _ _ J1.out.grown)), setK_in _ _ (setK_in _ _ J1.out.inn HC.out.no) HC.out.no, by rw [← HSW.out]; exact HPM.out.trans J1.out.perm⟩
            clear c0 c1 d0 d1 fc0 fc1 fd0 fd1 na0 nb0 na1 nb1 na2 nb2 na3 nb3 HZ HSW HPM HXM HYM J1
            clear e2 e2' e3 e4 e5 e6 e7 e8
            go_wp2_with fail
            refine ⟨⟨p, _, by omega, by omega, by rw [HPJ.out], HS2, HN⟩, ?_⟩
            simp only [intOf]
            omega
          · have HF3 : Hid (upF (insJ (fun a b => decide (c a b < 0)) a) (b - (i + 1)) (i + 1) xs = insB (fun a b => decide (c a b < 0)) a b ys) := by
              have := hG.out
              rw [HSTEP.out, if_neg hr] at this
              show _ = _
              rw [this]
              exact HF2.out
            clear hG HSTEP HF2 e2 e2' e3 e4 e5 e6 e7 e8
            go_wp2_with fail
            refine ⟨⟨i + 1, xs, by omega, by omega, by go_num, HF3, J1⟩, ?_⟩
            simp only [intOf]
            omega
        · have hj1 : j = a := by omega
          subst hj1
          have HF3 : Hid (upF (insJ (fun a b => decide (c a b < 0)) j) (b - (i + 1)) (i + 1) xs = insB (fun a b => decide (c a b < 0)) j b ys) := by
            have := hG.out
            rw [insJ_end (Nat.le_refl _)] at this
            show _ = _
            rw [this]
            exact HF2.out
          clear hG HF2
          go_wp2_with fail
          go_quiet (fail)
          go_wp2_with fail
          refine ⟨⟨i + 1, xs, by omega, by omega, by go_num, HF3, Ji.out.below (below_drewN (Below.refl _ _) _)⟩, ?_⟩
          simp only [intOf]
          omega
    · have HE : Hid (ST H g 163 2 f rest w ds (insB (fun a b => decide (c a b < 0)) a b ys) wr) := by
        have := hF.out
        rw [show b - i = 0 from by omega] at this
        show ST _ _ _ _ _ _ _ _ _ _
        rw [← this]
        exact J.out
      go_wp2_with fail
      go_end0
      exact ⟨rfl, HE.out⟩
end
end Go.Proofs.YtihcmifikbkbcaaGreat

/- symMerge of one element on the left, at elements of 2 cells. -/
namespace Go.Proofs.YtihcmifikbkbcaaGreat
set_option linter.unusedVariables false
open Go.RowKit
section
variable {D : Type}
set_option maxHeartbeats 4000000 in
set_option maxRecDepth 100000 in
theorem symMerge1_Pc {H : Frz} {f : D → Nat → Value} {kf : Nat} {caps : List Value} {c : D → D → Int} {ds : List D} {g n cap : Nat} {rest : List Value} {w : World} (hc : SC H f kf caps c ds g n cap) (N a m b : Nat) (ham : a < m) (hmb : m < b) (hb : b ≤ n) (hN : b - a ≤ N + 1) (ys : List D) (W : World) (hS : ST H g 163 2 f rest w ds ys W) (h1 : m - a = 1) :
    Calls Tryz.prog 146 #[.slice (some ⟨g, 0, none⟩) n cap, .int .i64 a, .int .i64 m, .int .i64 b, .func (.func kf) #[] caps.toArray] W fun e W' => e = .returned (.tuple #[]) ∧ ST H g 163 2 f rest w ds (symF (fun a b => decide (c a b < 0)) (N + 1) a m b ys) W' := by
    have HC := Lib.hid hc
    have HL := Lib.hid hc.len
    have hsm := hc.small
    have hcap := hc.cap
    have hcall := hc.call
    have HRO := Lib.hid (fun a m b h1 h2 h3 ys W hS => rotate_Pc (rest := rest) (w := w) hc a m b h1 h2 h3 ys W hS)
    have HS := Lib.hid hS
    have HF : Hid (symF (fun a b => decide (c a b < 0)) (N + 1) a m b ys = if m - a = 1 then upS (symI1 (fun a b => decide (c a b < 0)) a m b ys - 1 - a) a ys else if b - m = 1 then dnS (m - symI2 (fun a b => decide (c a b < 0)) a m b ys) m ys else
      if (a + b) / 2 < ((a + b) / 2 + m - symSt (fun a b => decide (c a b < 0)) a m b ys) ∧ ((a + b) / 2 + m - symSt (fun a b => decide (c a b < 0)) a m b ys) < b then symF (fun a b => decide (c a b < 0)) N ((a + b) / 2) ((a + b) / 2 + m - symSt (fun a b => decide (c a b < 0)) a m b ys) b (if a < symSt (fun a b => decide (c a b < 0)) a m b ys ∧ symSt (fun a b => decide (c a b < 0)) a m b ys < (a + b) / 2 then symF (fun a b => decide (c a b < 0)) N a (symSt (fun a b => decide (c a b < 0)) a m b ys) ((a + b) / 2) (symL1 (symSt (fun a b => decide (c a b < 0)) a m b ys) m ((a + b) / 2 + m - symSt (fun a b => decide (c a b < 0)) a m b ys) ys) else (symL1 (symSt (fun a b => decide (c a b < 0)) a m b ys) m ((a + b) / 2 + m - symSt (fun a b => decide (c a b < 0)) a m b ys) ys)) else (if a < symSt (fun a b => decide (c a b < 0)) a m b ys ∧ symSt (fun a b => decide (c a b < 0)) a m b ys < (a + b) / 2 then symF (fun a b => decide (c a b < 0)) N a (symSt (fun a b => decide (c a b < 0)) a m b ys) ((a + b) / 2) (symL1 (symSt (fun a b => decide (c a b < 0)) a m b ys) m ((a + b) / 2 + m - symSt (fun a b => decide (c a b < 0)) a m b ys) ys) else (symL1 (symSt (fun a b => decide (c a b < 0)) a m b ys) m ((a + b) / 2 + m - symSt (fun a b => decide (c a b < 0)) a m b ys) ys))) := rfl
    clear hc hS
    have z1 : IntKind.i64.wrap ((m : Int) - (a : Int)) = (m : Int) - (a : Int) := IntWalk.i64_in _ (by omega)
    have z2 : IntKind.i64.wrap ((b : Int) - (m : Int)) = (b : Int) - (m : Int) := IntWalk.i64_in _ (by omega)
    · have k1 : ((m : Int) - (a : Int) == 1) = true := by simp; omega
      have HF1 : Hid (∀ W', ST H g 163 2 f rest w ds (upS (symI1 (fun a b => decide (c a b < 0)) a m b ys - 1 - a) a ys) W' → ST H g 163 2 f rest w ds (symF (fun a b => decide (c a b < 0)) (N + 1) a m b ys) W') := by
        intro W' h
        rw [HF.out, if_pos h1]
        exact h
      clear HF
      have ham1 : m = a + 1 := by omega
      have hin := bsF_in (fun h => ltAt (fun a b => decide (c a b < 0)) ys h a) (b - m) (i := m) (j := b) (by omega)
      have HIN : Hid (m ≤ symI1 (fun a b => decide (c a b < 0)) a m b ys ∧ symI1 (fun a b => decide (c a b < 0)) a m b ys ≤ b) := hin
      clear hin
      have HAM := Lib.hid ham1
      clear ham1 h1
      go_enter Tryz.func146, Tryz.ntmps146
      go_wp2_with fail
      clear z1 z2 k1
      go_loopw [10, 11] (fun t u wr => ∃ (i j q : Nat), m ≤ i ∧ i ≤ j ∧ j ≤ b ∧ j - i ≤ q ∧ t = .int .i64 i ∧ u = .int .i64 j ∧ Hid (bsF (fun h => ltAt (fun a b => decide (c a b < 0)) ys h a) q i j = symI1 (fun a b => decide (c a b < 0)) a m b ys) ∧ Hid (ST H g 163 2 f rest w ds ys wr)) (fun t u _ => (intOf u).toNat - (intOf t).toNat)
      case atStart => exact ⟨m, b, b - m, by omega, by omega, by omega, by omega, rfl, rfl, rfl, HS⟩
      case round =>
        obtain ⟨i, j, q, hmi, hij, hjb, hq, rfl, rfl, hB, J⟩ := hrel
        clear HS
        by_cases hlt : i < j
        · have e1 : IntKind.i64.wrap ((i : Int) + (j : Int)) = (i : Int) + (j : Int) := IntWalk.i64_in _ (by omega)
          obtain ⟨h, hh⟩ : ∃ h, h = (i + j) / 2 := ⟨_, rfl⟩
          have k2 : ((i : Int) + (j : Int)) / 2 = (h : Int) := by omega
          have hhb : h < b := by omega
          have hmh : m ≤ h := by omega
          have hih : i ≤ h := by omega
          have hhj : h < j := by omega
          obtain ⟨q, rfl⟩ : ∃ k, q = k + 1 := ⟨q - 1, by omega⟩
          have HY2 : Hid (ltAt (fun a b => decide (c a b < 0)) ys h a = true → bsF (fun h => ltAt (fun a b => decide (c a b < 0)) ys h a) q (h + 1) j = symI1 (fun a b => decide (c a b < 0)) a m b ys) := fun hp => by
            have := hB.out
            rw [bsF_yes hlt (by rw [← hh]; exact hp), ← hh] at this
            exact this
          have HN2 : Hid (ltAt (fun a b => decide (c a b < 0)) ys h a = false → bsF (fun h => ltAt (fun a b => decide (c a b < 0)) ys h a) q i h = symI1 (fun a b => decide (c a b < 0)) a m b ys) := fun hp => by
            have := hB.out
            rw [bsF_no hlt (by rw [← hh]; exact hp), ← hh] at this
            exact this
          have e3 : (h : Int) < n := by omega
          have e4 : (a : Int) < n := by omega
          have hql : j - (h + 1) ≤ q := by omega
          have hqr : h - i ≤ q := by omega
          clear hh hB
          have hI : h < ys.length := by rw [J.out.len, HL.out]; omega
          have hJ : a < ys.length := by rw [J.out.len, HL.out]; omega
          have c0 : wr.cell? ⟨g, h * 2, none⟩ = some (f ys[h] 0) := J.out.blk.cell h 0 hI (by omega)
          have c1 : wr.cell? ⟨g, h * 2 + 1, none⟩ = some (f ys[h] 1) := J.out.blk.cell h 1 hI (by omega)
          have d0 : wr.cell? ⟨g, a * 2, none⟩ = some (f ys[a] 0) := J.out.blk.cell a 0 hJ (by omega)
          have d1 : wr.cell? ⟨g, a * 2 + 1, none⟩ = some (f ys[a] 1) := J.out.blk.cell a 1 hJ (by omega)
          have HXM := Lib.hid (J.out.mem (List.getElem_mem hI))
          have HYM := Lib.hid (J.out.mem (List.getElem_mem hJ))
          have HLT : Hid (ltAt (fun a b => decide (c a b < 0)) ys h a = decide (c ys[h] ys[a] < 0)) := ltAt_at hI hJ
          generalize ys[h] = x at *
          generalize ys[a] = y at *
          clear hI hJ
          go_wp2_with fail
          go_still_tail 9, (by kernel_rfl)
          change wpList _ _ _ _ _ wr.drew
          go_wp2_with fail
          refine (HC.out.cmp wr.drew x y J.out.inn HXM.out HYM.out).mono ?_
          rintro e w1 ⟨rfl, hb1⟩
          have J1 := Lib.hid (J.out.below (W' := w1) ((Below.refl _ wr).drew.trans hb1))
          clear c0 c1 d0 d1 J hb1 HXM HYM
          clear e1 k2
          by_cases hr : c x y < 0
          · have HY3 := Lib.hid (HY2.out (HLT.out.trans (by simpa using hr)))
            clear HY2 HN2 HLT
            go_wp2_with fail
            go_roundw
            case rel => exact ⟨h + 1, j, q, by omega, by omega, by omega, by omega, by go_num, rfl, HY3, J1⟩
            case measure => simp [intOf]; omega
          · have HN3 := Lib.hid (HN2.out (HLT.out.trans (by simpa using hr)))
            clear HY2 HN2 HLT
            go_wp2_with fail
            go_roundw
            case rel => exact ⟨i, h, q, by omega, by omega, by omega, by omega, rfl, rfl, HN3, J1⟩
            case measure => simp [intOf]; omega
        · have hie : i = symI1 (fun a b => decide (c a b < 0)) a m b ys := by
            have := hB.out
            rw [bsF_end _ _ (by omega)] at this
            exact this
          have HIE := Lib.hid hie
          clear hie hB
          have HF2 : Hid (∀ W', ST H g 163 2 f rest w ds (upS (i - 1 - a) a ys) W' → ST H g 163 2 f rest w ds (symF (fun a b => decide (c a b < 0)) (N + 1) a m b ys) W') := by
            rw [HIE.out]
            exact HF1.out
          obtain ⟨u, hu⟩ : ∃ u, i = u + 1 := ⟨i - 1, by omega⟩
          have hua : a ≤ u := by have := HAM.out; omega
          have e1 : IntKind.i64.wrap ((i : Int) - 1) = (u : Int) := by rw [show (i : Int) - 1 = (u : Int) from by omega]; exact IntWalk.i64_in _ (by omega)
          have e2 : (i : Int) - 1 = (u : Int) := by omega
          have HE1 := Lib.hid e1
          have HE2 := Lib.hid e2
          have hub : u + 1 ≤ b := by omega
          rw [show i - 1 - a = u - a from by omega] at HF2
          clear e1 e2 HF1 HIN HIE hu
          go_wp2_with fail
          go_loopw [13] (fun t wr => ∃ (k : Nat) (zs : List D), a ≤ k ∧ k ≤ u ∧ t = .int .i64 k ∧ Hid (upF (fun k l => swp l k (k + 1)) (u - k) k zs = upS (u - a) a ys) ∧ Hid (ST H g 163 2 f rest w ds zs wr)) (fun t _ => u - (intOf t).toNat)
          case atStart => exact ⟨a, ys, by omega, by omega, rfl, rfl, J⟩
          case round =>
            obtain ⟨k, zs, hka, hku, rfl, hG, J⟩ := hrel
            have e1 := HE1.out
            have e2 := HE2.out
            by_cases hlt : k < u
            · have hlt2 : (k : Int) < (u : Int) := by omega
              obtain ⟨q, hq⟩ : ∃ q, u - k = q + 1 := ⟨u - k - 1, by omega⟩
              have HG2 : Hid (upF (fun k l => swp l k (k + 1)) (u - (k + 1)) (k + 1) (swp zs k (k + 1)) = upS (u - a) a ys) := by
                have := hG.out
                rw [hq] at this
                rw [show u - (k + 1) = q from by omega]
                exact this
              clear hG hq
              obtain ⟨r, hr⟩ : ∃ r, r = k + 1 := ⟨_, rfl⟩
              rw [← hr] at HG2
              have b1 : IntKind.i64.wrap ((k : Int) + 1) = (r : Int) := by rw [show (k : Int) + 1 = r from by omega]; exact IntWalk.i64_in _ (by omega)
              have b2 : (k : Int) + 1 = (r : Int) := by omega
              have b3 : (r : Int) < n := by omega
              have b4 : (0 : Int) ≤ (r : Int) := by omega
              have b5 : (k : Int) < n := by omega
              have b6 : IntKind.i64.wrap (r : Int) = (r : Int) := IntWalk.i64_in _ (by omega)
              have hkr : k < r := by omega
              have hkn : k < n := by omega
              have hrn : r < n := by omega
              have hru : r ≤ u := by omega
              have hjl : ds.length = n := HL.out
              clear hr
              go_wp2_with fail
              have hI : k < zs.length := by rw [J.out.len, hjl]; omega
              have hJ : r < zs.length := by rw [J.out.len, hjl]; omega
              have c0 : wr.cell? ⟨g, k * 2, none⟩ = some (f zs[k] 0) := J.out.blk.cell k 0 hI (by omega)
              have c1 : wr.cell? ⟨g, k * 2 + 1, none⟩ = some (f zs[k] 1) := J.out.blk.cell k 1 hI (by omega)
              have d0 : wr.cell? ⟨g, r * 2, none⟩ = some (f zs[r] 0) := J.out.blk.cell r 0 hJ (by omega)
              have d1 : wr.cell? ⟨g, r * 2 + 1, none⟩ = some (f zs[r] 1) := J.out.blk.cell r 1 hJ (by omega)
              have fc0 := J.out.blk.frozen (k * 2)
              have fc1 := J.out.blk.frozen (k * 2 + 1)
              have fd0 := J.out.blk.frozen (r * 2)
              have fd1 := J.out.blk.frozen (r * 2 + 1)
              have HXM := Lib.hid (J.out.mem (List.getElem_mem hI))
              have HYM := Lib.hid (J.out.mem (List.getElem_mem hJ))
              have HSW : Hid (swp zs k r = (zs.set k zs[r]).set r zs[k]) := swp_at hI hJ
              have HPM := Lib.hid (swp_perm zs k r)
              have HZ := Lib.hid ((J.out.blk.put k hI zs[r]).put r (by simpa using hJ) zs[k])
              generalize zs[k] = x at *
              generalize zs[r] = y at *
              clear hI hJ
              have na0 : ¬ k * 2 = r * 2 := by omega
              have nb0 : ¬ r * 2 = k * 2 := by omega
              have na1 : ¬ k * 2 = r * 2 + 1 := by omega
              have nb1 : ¬ r * 2 + 1 = k * 2 := by omega
              have na2 : ¬ k * 2 + 1 = r * 2 := by omega
              have nb2 : ¬ r * 2 = k * 2 + 1 := by omega
              have na3 : ¬ k * 2 + 1 = r * 2 + 1 := by omega
              have nb3 : ¬ r * 2 + 1 = k * 2 + 1 := by omega
              have hst : ∀ (m : Nat) (ad : Addr) (mo : Mode) (W : World), Sem.run Tryz.prog (store ad (f x m) mo) W = stored Tryz.prog W ad (f x m) mo := fun m ad mo W => run_store _ W ad _ mo (HC.out.one x HXM.out m)
              have hst' : ∀ (m : Nat) (ad : Addr) (mo : Mode) (W : World), Sem.run Tryz.prog (store ad (f y m) mo) W = stored Tryz.prog W ad (f y m) mo := fun m ad mo W => run_store _ W ad _ mo (HC.out.one y HYM.out m)
              go_upto_region 10 with (fail)
              go_region
              clear hst hst'
              have HN : Hid (ST H g 163 2 f rest w ds (swp zs k r) (World.drew (setK (setK wr g (k * 2) ((List.range 2).map (f y))) g (r * 2) ((List.range 2).map (f x))))) := by
                show ST _ _ _ _ _ _ _ _ _ _
                rw [HSW.out]
                exact ⟨HZ.out, grown_drew (setK_grown _ _ (setK_grown _ _ J.out.grown)), setK_in _ _ (setK_in _ _ J.out.inn HC.out.no) HC.out.no, by rw [← HSW.out]; exact HPM.out.trans J.out.perm⟩
              clear c0 c1 d0 d1 fc0 fc1 fd0 fd1 na0 nb0 na1 nb1 na2 nb2 na3 nb3 HZ HSW HPM HXM HYM J
              have HB2 := Lib.hid b2
              clear b1 b2 b3 b4 b5 b6 e1 e2
              go_wp2_with fail
              refine ⟨⟨r, _, by omega, by omega, by rw [HB2.out], HG2, HN⟩, ?_⟩
              simp only [intOf]
              have := HB2.out
              omega
            · have HE : Hid (ST H g 163 2 f rest w ds (symF (fun a b => decide (c a b < 0)) (N + 1) a m b ys) wr) := by
                have := hG.out
                rw [show u - k = 0 from by omega] at this
                refine HF2.out _ ?_
                rw [← this]
                exact J.out
              have hlt2 : ¬ (k : Int) < (u : Int) := by omega
              go_wp2_with fail
              refine bodyPost_ret (results_none rfl _ _ _) rfl ?_
              exact ⟨rfl, HE.out⟩
end
end Go.Proofs.YtihcmifikbkbcaaGreat

/- symMerge of one element on the right, at elements of 2 cells. -/
namespace Go.Proofs.YtihcmifikbkbcaaGreat
set_option linter.unusedVariables false
open Go.RowKit
section
variable {D : Type}
set_option maxHeartbeats 4000000 in
set_option maxRecDepth 100000 in
theorem symMerge2_Pc {H : Frz} {f : D → Nat → Value} {kf : Nat} {caps : List Value} {c : D → D → Int} {ds : List D} {g n cap : Nat} {rest : List Value} {w : World} (hc : SC H f kf caps c ds g n cap) (N a m b : Nat) (ham : a < m) (hmb : m < b) (hb : b ≤ n) (hN : b - a ≤ N + 1) (ys : List D) (W : World) (hS : ST H g 163 2 f rest w ds ys W) (h1 : ¬ m - a = 1) (h2 : b - m = 1) :
    Calls Tryz.prog 146 #[.slice (some ⟨g, 0, none⟩) n cap, .int .i64 a, .int .i64 m, .int .i64 b, .func (.func kf) #[] caps.toArray] W fun e W' => e = .returned (.tuple #[]) ∧ ST H g 163 2 f rest w ds (symF (fun a b => decide (c a b < 0)) (N + 1) a m b ys) W' := by
    have HC := Lib.hid hc
    have HL := Lib.hid hc.len
    have hsm := hc.small
    have hcap := hc.cap
    have hcall := hc.call
    have HRO := Lib.hid (fun a m b h1 h2 h3 ys W hS => rotate_Pc (rest := rest) (w := w) hc a m b h1 h2 h3 ys W hS)
    have HS := Lib.hid hS
    have HF : Hid (symF (fun a b => decide (c a b < 0)) (N + 1) a m b ys = if m - a = 1 then upS (symI1 (fun a b => decide (c a b < 0)) a m b ys - 1 - a) a ys else if b - m = 1 then dnS (m - symI2 (fun a b => decide (c a b < 0)) a m b ys) m ys else
      if (a + b) / 2 < ((a + b) / 2 + m - symSt (fun a b => decide (c a b < 0)) a m b ys) ∧ ((a + b) / 2 + m - symSt (fun a b => decide (c a b < 0)) a m b ys) < b then symF (fun a b => decide (c a b < 0)) N ((a + b) / 2) ((a + b) / 2 + m - symSt (fun a b => decide (c a b < 0)) a m b ys) b (if a < symSt (fun a b => decide (c a b < 0)) a m b ys ∧ symSt (fun a b => decide (c a b < 0)) a m b ys < (a + b) / 2 then symF (fun a b => decide (c a b < 0)) N a (symSt (fun a b => decide (c a b < 0)) a m b ys) ((a + b) / 2) (symL1 (symSt (fun a b => decide (c a b < 0)) a m b ys) m ((a + b) / 2 + m - symSt (fun a b => decide (c a b < 0)) a m b ys) ys) else (symL1 (symSt (fun a b => decide (c a b < 0)) a m b ys) m ((a + b) / 2 + m - symSt (fun a b => decide (c a b < 0)) a m b ys) ys)) else (if a < symSt (fun a b => decide (c a b < 0)) a m b ys ∧ symSt (fun a b => decide (c a b < 0)) a m b ys < (a + b) / 2 then symF (fun a b => decide (c a b < 0)) N a (symSt (fun a b => decide (c a b < 0)) a m b ys) ((a + b) / 2) (symL1 (symSt (fun a b => decide (c a b < 0)) a m b ys) m ((a + b) / 2 + m - symSt (fun a b => decide (c a b < 0)) a m b ys) ys) else (symL1 (symSt (fun a b => decide (c a b < 0)) a m b ys) m ((a + b) / 2 + m - symSt (fun a b => decide (c a b < 0)) a m b ys) ys))) := rfl
    clear hc hS
    have z1 : IntKind.i64.wrap ((m : Int) - (a : Int)) = (m : Int) - (a : Int) := IntWalk.i64_in _ (by omega)
    have z2 : IntKind.i64.wrap ((b : Int) - (m : Int)) = (b : Int) - (m : Int) := IntWalk.i64_in _ (by omega)
    · have k1 : ((m : Int) - (a : Int) == 1) = false := by simp; omega
      · have k2 : ((b : Int) - (m : Int) == 1) = true := by simp; omega
        have HF1 : Hid (∀ W', ST H g 163 2 f rest w ds (dnS (m - symI2 (fun a b => decide (c a b < 0)) a m b ys) m ys) W' → ST H g 163 2 f rest w ds (symF (fun a b => decide (c a b < 0)) (N + 1) a m b ys) W') := by
          intro W' h
          rw [HF.out, if_neg h1, if_pos h2]
          exact h
        clear HF
        have hin := bsF_in (fun h => !ltAt (fun a b => decide (c a b < 0)) ys m h) (m - a) (i := a) (j := m) (by omega)
        have HIN : Hid (a ≤ symI2 (fun a b => decide (c a b < 0)) a m b ys ∧ symI2 (fun a b => decide (c a b < 0)) a m b ys ≤ m) := hin
        clear hin h1 h2
        go_enter Tryz.func146, Tryz.ntmps146
        go_wp2_with fail
        clear z1 z2 k1 k2
        go_loopw [14, 15] (fun t u wr => ∃ (i j q : Nat), a ≤ i ∧ i ≤ j ∧ j ≤ m ∧ j - i ≤ q ∧ t = .int .i64 i ∧ u = .int .i64 j ∧ Hid (bsF (fun h => !ltAt (fun a b => decide (c a b < 0)) ys m h) q i j = symI2 (fun a b => decide (c a b < 0)) a m b ys) ∧ Hid (ST H g 163 2 f rest w ds ys wr)) (fun t u _ => (intOf u).toNat - (intOf t).toNat)
        case atStart => exact ⟨a, m, m - a, by omega, by omega, by omega, by omega, rfl, rfl, rfl, HS⟩
        case round =>
          obtain ⟨i, j, q, hmi, hij, hjb, hq, rfl, rfl, hB, J⟩ := hrel
          clear HS
          by_cases hlt : i < j
          · have e1 : IntKind.i64.wrap ((i : Int) + (j : Int)) = (i : Int) + (j : Int) := IntWalk.i64_in _ (by omega)
            obtain ⟨h, hh⟩ : ∃ h, h = (i + j) / 2 := ⟨_, rfl⟩
            have k2 : ((i : Int) + (j : Int)) / 2 = (h : Int) := by omega
            have hhb : h < m := by omega
            have hmh : a ≤ h := by omega
            have hih : i ≤ h := by omega
            have hhj : h < j := by omega
            obtain ⟨q, rfl⟩ : ∃ k, q = k + 1 := ⟨q - 1, by omega⟩
            have HY2 : Hid ((!ltAt (fun a b => decide (c a b < 0)) ys m h) = true → bsF (fun h => !ltAt (fun a b => decide (c a b < 0)) ys m h) q (h + 1) j = symI2 (fun a b => decide (c a b < 0)) a m b ys) := fun hp => by
              have := hB.out
              rw [bsF_yes hlt (by rw [← hh]; exact hp), ← hh] at this
              exact this
            have HN2 : Hid ((!ltAt (fun a b => decide (c a b < 0)) ys m h) = false → bsF (fun h => !ltAt (fun a b => decide (c a b < 0)) ys m h) q i h = symI2 (fun a b => decide (c a b < 0)) a m b ys) := fun hp => by
              have := hB.out
              rw [bsF_no hlt (by rw [← hh]; exact hp), ← hh] at this
              exact this
            have e3 : (h : Int) < n := by omega
            have e4 : (m : Int) < n := by omega
            have hql : j - (h + 1) ≤ q := by omega
            have hqr : h - i ≤ q := by omega
            clear hh hB
            have hI : m < ys.length := by rw [J.out.len, HL.out]; omega
            have hJ : h < ys.length := by rw [J.out.len, HL.out]; omega
            have c0 : wr.cell? ⟨g, m * 2, none⟩ = some (f ys[m] 0) := J.out.blk.cell m 0 hI (by omega)
            have c1 : wr.cell? ⟨g, m * 2 + 1, none⟩ = some (f ys[m] 1) := J.out.blk.cell m 1 hI (by omega)
            have d0 : wr.cell? ⟨g, h * 2, none⟩ = some (f ys[h] 0) := J.out.blk.cell h 0 hJ (by omega)
            have d1 : wr.cell? ⟨g, h * 2 + 1, none⟩ = some (f ys[h] 1) := J.out.blk.cell h 1 hJ (by omega)
            have HXM := Lib.hid (J.out.mem (List.getElem_mem hI))
            have HYM := Lib.hid (J.out.mem (List.getElem_mem hJ))
            have HLT : Hid (ltAt (fun a b => decide (c a b < 0)) ys m h = decide (c ys[m] ys[h] < 0)) := ltAt_at hI hJ
            generalize ys[m] = x at *
            generalize ys[h] = y at *
            clear hI hJ
            go_wp2_with fail
            go_still_tail 9, (by kernel_rfl)
            change wpList _ _ _ _ _ wr.drew
            go_wp2_with fail
            refine (HC.out.cmp wr.drew x y J.out.inn HXM.out HYM.out).mono ?_
            rintro e w1 ⟨rfl, hb1⟩
            have J1 := Lib.hid (J.out.below (W' := w1) ((Below.refl _ wr).drew.trans hb1))
            clear c0 c1 d0 d1 J hb1 HXM HYM
            clear e1 k2
            by_cases hr : c x y < 0
            · have hd : decide (c x y < 0) = true := by simpa using hr
              have HN3 := Lib.hid (HN2.out (by rw [HLT.out]; simpa using hr))
              clear HY2 HN2 HLT
              go_wp2_with fail
              go_roundw
              case rel => exact ⟨i, h, q, by omega, by omega, by omega, by omega, rfl, rfl, HN3, J1⟩
              case measure => simp [intOf]; omega
            · have hd : decide (c x y < 0) = false := by simpa using hr
              have HY3 := Lib.hid (HY2.out (by rw [HLT.out]; simpa using hr))
              clear HY2 HN2 HLT
              go_wp2_with fail
              go_roundw
              case rel => exact ⟨h + 1, j, q, by omega, by omega, by omega, by omega, by go_num, rfl, HY3, J1⟩
              case measure => simp [intOf]; omega
          · have hie : i = symI2 (fun a b => decide (c a b < 0)) a m b ys := by
              have := hB.out
              rw [bsF_end _ _ (by omega)] at this
              exact this
            have HF2 : Hid (∀ W', ST H g 163 2 f rest w ds (dnS (m - i) m ys) W' → ST H g 163 2 f rest w ds (symF (fun a b => decide (c a b < 0)) (N + 1) a m b ys) W') := by
              rw [hie]
              exact HF1.out
            have him : i ≤ m := by have := HIN.out.2; omega
            clear hB HF1 HIN hie
            go_wp2_with fail
            go_loopw [17] (fun t wr => ∃ (k : Nat) (zs : List D), i ≤ k ∧ k ≤ m ∧ t = .int .i64 k ∧ Hid (dnF (fun k l => swp l k (k - 1)) (k - i) k zs = dnS (m - i) m ys) ∧ Hid (ST H g 163 2 f rest w ds zs wr)) (fun t _ => (intOf t).toNat)
            case atStart => exact ⟨m, ys, by omega, by omega, rfl, rfl, J⟩
            case round =>
              obtain ⟨k, zs, hki, hkm, rfl, hG, J⟩ := hrel
              by_cases hlt : i < k
              · have hlt2 : (i : Int) < (k : Int) := by omega
                obtain ⟨p, hp⟩ : ∃ p, k = p + 1 := ⟨k - 1, by omega⟩
                have HG2 : Hid (dnF (fun k l => swp l k (k - 1)) (p - i) p (swp zs k p) = dnS (m - i) m ys) := by
                  have := hG.out
                  rw [show k - i = (p - i) + 1 from by omega] at this
                  have h2 : dnF (fun k l => swp l k (k - 1)) (p - i) (k - 1) (swp zs k (k - 1)) = dnS (m - i) m ys := this
                  rw [show k - 1 = p from by omega] at h2
                  exact h2
                clear hG
                have b1 : IntKind.i64.wrap ((k : Int) - 1) = (p : Int) := by rw [show (k : Int) - 1 = p from by omega]; exact IntWalk.i64_in _ (by omega)
                have b2 : (k : Int) - 1 = (p : Int) := by omega
                have b3 : (p : Int) < n := by omega
                have b4 : (0 : Int) ≤ (p : Int) := by omega
                have b5 : (k : Int) < n := by omega
                have b6 : IntKind.i64.wrap (p : Int) = (p : Int) := IntWalk.i64_in _ (by omega)
                have b7 : (0 : Int) ≤ (k : Int) := by omega
                have hkr : p < k := by omega
                have hkn : k < n := by omega
                have hrn : p < n := by omega
                have hip : i ≤ p := by omega
                have hpm : p ≤ m := by omega
                have hjl : ds.length = n := HL.out
                clear hp
                go_wp2_with fail
                have hI : k < zs.length := by rw [J.out.len, hjl]; omega
                have hJ : p < zs.length := by rw [J.out.len, hjl]; omega
                have c0 : wr.cell? ⟨g, k * 2, none⟩ = some (f zs[k] 0) := J.out.blk.cell k 0 hI (by omega)
                have c1 : wr.cell? ⟨g, k * 2 + 1, none⟩ = some (f zs[k] 1) := J.out.blk.cell k 1 hI (by omega)
                have d0 : wr.cell? ⟨g, p * 2, none⟩ = some (f zs[p] 0) := J.out.blk.cell p 0 hJ (by omega)
                have d1 : wr.cell? ⟨g, p * 2 + 1, none⟩ = some (f zs[p] 1) := J.out.blk.cell p 1 hJ (by omega)
                have fc0 := J.out.blk.frozen (k * 2)
                have fc1 := J.out.blk.frozen (k * 2 + 1)
                have fd0 := J.out.blk.frozen (p * 2)
                have fd1 := J.out.blk.frozen (p * 2 + 1)
                have HXM := Lib.hid (J.out.mem (List.getElem_mem hI))
                have HYM := Lib.hid (J.out.mem (List.getElem_mem hJ))
                have HSW : Hid (swp zs k p = (zs.set k zs[p]).set p zs[k]) := swp_at hI hJ
                have HPM := Lib.hid (swp_perm zs k p)
                have HZ := Lib.hid ((J.out.blk.put k hI zs[p]).put p (by simpa using hJ) zs[k])
                generalize zs[k] = x at *
                generalize zs[p] = y at *
                clear hI hJ
                have na0 : ¬ k * 2 = p * 2 := by omega
                have nb0 : ¬ p * 2 = k * 2 := by omega
                have na1 : ¬ k * 2 = p * 2 + 1 := by omega
                have nb1 : ¬ p * 2 + 1 = k * 2 := by omega
                have na2 : ¬ k * 2 + 1 = p * 2 := by omega
                have nb2 : ¬ p * 2 = k * 2 + 1 := by omega
                have na3 : ¬ k * 2 + 1 = p * 2 + 1 := by omega
                have nb3 : ¬ p * 2 + 1 = k * 2 + 1 := by omega
                have hst : ∀ (m : Nat) (ad : Addr) (mo : Mode) (W : World), Sem.run Tryz.prog (store ad (f x m) mo) W = stored Tryz.prog W ad (f x m) mo := fun m ad mo W => run_store _ W ad _ mo (HC.out.one x HXM.out m)
                have hst' : ∀ (m : Nat) (ad : Addr) (mo : Mode) (W : World), Sem.run Tryz.prog (store ad (f y m) mo) W = stored Tryz.prog W ad (f y m) mo := fun m ad mo W => run_store _ W ad _ mo (HC.out.one y HYM.out m)
                go_upto_region 22 with (fail)
                go_region
                clear hst hst'
                have HN : Hid (ST H g 163 2 f rest w ds (swp zs k p) (World.drew (setK (setK wr g (k * 2) ((List.range 2).map (f y))) g (p * 2) ((List.range 2).map (f x))))) := by
                  show ST _ _ _ _ _ _ _ _ _ _
                  rw [HSW.out]
                  exact ⟨HZ.out, grown_drew (setK_grown _ _ (setK_grown _ _ J.out.grown)), setK_in _ _ (setK_in _ _ J.out.inn HC.out.no) HC.out.no, by rw [← HSW.out]; exact HPM.out.trans J.out.perm⟩
                clear c0 c1 d0 d1 fc0 fc1 fd0 fd1 na0 nb0 na1 nb1 na2 nb2 na3 nb3 HZ HSW HPM HXM HYM J
                have HB2 := Lib.hid b2
                clear b1 b2 b3 b4 b5 b6 b7
                go_wp2_with fail
                refine ⟨⟨p, _, by omega, by omega, by rw [HB2.out], HG2, HN⟩, ?_⟩
                simp only [intOf]
                have := HB2.out
                omega
              · have HE : Hid (ST H g 163 2 f rest w ds (symF (fun a b => decide (c a b < 0)) (N + 1) a m b ys) wr) := by
                  have := hG.out
                  rw [show k - i = 0 from by omega] at this
                  refine HF2.out _ ?_
                  rw [← this]
                  exact J.out
                have hlt2 : ¬ (i : Int) < (k : Int) := by omega
                go_wp2_with fail
                refine bodyPost_ret (results_none rfl _ _ _) rfl ?_
                exact ⟨rfl, HE.out⟩
end
end Go.Proofs.YtihcmifikbkbcaaGreat

/- symMerge of more, at elements of 2 cells. -/
namespace Go.Proofs.YtihcmifikbkbcaaGreat
set_option linter.unusedVariables false
open Go.RowKit
section
variable {D : Type}
set_option maxHeartbeats 4000000 in
set_option maxRecDepth 100000 in
theorem symMerge3_Pc {H : Frz} {f : D → Nat → Value} {kf : Nat} {caps : List Value} {c : D → D → Int} {ds : List D} {g n cap : Nat} {rest : List Value} {w : World} (hc : SC H f kf caps c ds g n cap) (N a m b : Nat) (ham : a < m) (hmb : m < b) (hb : b ≤ n) (hN : b - a ≤ N + 1) (ys : List D) (W : World) (hS : ST H g 163 2 f rest w ds ys W) (h1 : ¬ m - a = 1) (h2 : ¬ b - m = 1) (HIH : Hid (∀ (a m b : Nat), a < m → m < b → b ≤ n → b - a ≤ N → ∀ (ys : List D) (W : World), ST H g 163 2 f rest w ds ys W → Calls Tryz.prog 146 #[.slice (some ⟨g, 0, none⟩) n cap, .int .i64 a, .int .i64 m, .int .i64 b, .func (.func kf) #[] caps.toArray] W fun e W' => e = .returned (.tuple #[]) ∧ ST H g 163 2 f rest w ds (symF (fun a b => decide (c a b < 0)) N a m b ys) W')) :
    Calls Tryz.prog 146 #[.slice (some ⟨g, 0, none⟩) n cap, .int .i64 a, .int .i64 m, .int .i64 b, .func (.func kf) #[] caps.toArray] W fun e W' => e = .returned (.tuple #[]) ∧ ST H g 163 2 f rest w ds (symF (fun a b => decide (c a b < 0)) (N + 1) a m b ys) W' := by
    have HC := Lib.hid hc
    have HL := Lib.hid hc.len
    have hsm := hc.small
    have hcap := hc.cap
    have hcall := hc.call
    have HRO := Lib.hid (fun a m b h1 h2 h3 ys W hS => rotate_Pc (rest := rest) (w := w) hc a m b h1 h2 h3 ys W hS)
    have HS := Lib.hid hS
    have HF : Hid (symF (fun a b => decide (c a b < 0)) (N + 1) a m b ys = if m - a = 1 then upS (symI1 (fun a b => decide (c a b < 0)) a m b ys - 1 - a) a ys else if b - m = 1 then dnS (m - symI2 (fun a b => decide (c a b < 0)) a m b ys) m ys else
      if (a + b) / 2 < ((a + b) / 2 + m - symSt (fun a b => decide (c a b < 0)) a m b ys) ∧ ((a + b) / 2 + m - symSt (fun a b => decide (c a b < 0)) a m b ys) < b then symF (fun a b => decide (c a b < 0)) N ((a + b) / 2) ((a + b) / 2 + m - symSt (fun a b => decide (c a b < 0)) a m b ys) b (if a < symSt (fun a b => decide (c a b < 0)) a m b ys ∧ symSt (fun a b => decide (c a b < 0)) a m b ys < (a + b) / 2 then symF (fun a b => decide (c a b < 0)) N a (symSt (fun a b => decide (c a b < 0)) a m b ys) ((a + b) / 2) (symL1 (symSt (fun a b => decide (c a b < 0)) a m b ys) m ((a + b) / 2 + m - symSt (fun a b => decide (c a b < 0)) a m b ys) ys) else (symL1 (symSt (fun a b => decide (c a b < 0)) a m b ys) m ((a + b) / 2 + m - symSt (fun a b => decide (c a b < 0)) a m b ys) ys)) else (if a < symSt (fun a b => decide (c a b < 0)) a m b ys ∧ symSt (fun a b => decide (c a b < 0)) a m b ys < (a + b) / 2 then symF (fun a b => decide (c a b < 0)) N a (symSt (fun a b => decide (c a b < 0)) a m b ys) ((a + b) / 2) (symL1 (symSt (fun a b => decide (c a b < 0)) a m b ys) m ((a + b) / 2 + m - symSt (fun a b => decide (c a b < 0)) a m b ys) ys) else (symL1 (symSt (fun a b => decide (c a b < 0)) a m b ys) m ((a + b) / 2 + m - symSt (fun a b => decide (c a b < 0)) a m b ys) ys))) := rfl
    clear hc hS
    have z1 : IntKind.i64.wrap ((m : Int) - (a : Int)) = (m : Int) - (a : Int) := IntWalk.i64_in _ (by omega)
    have z2 : IntKind.i64.wrap ((b : Int) - (m : Int)) = (b : Int) - (m : Int) := IntWalk.i64_in _ (by omega)
    · have k1 : ((m : Int) - (a : Int) == 1) = false := by simp; omega
      · have k2 : ((b : Int) - (m : Int) == 1) = false := by simp; omega
        have HF1 := Lib.hid (HF.out.trans ((if_neg h1).trans (if_neg h2)))
        clear HF
        obtain ⟨M, hM⟩ : ∃ M, M = (a + b) / 2 := ⟨_, rfl⟩
        have e1 : IntKind.i64.wrap ((a : Int) + (b : Int)) = (a : Int) + (b : Int) := IntWalk.i64_in _ (by omega)
        have e2 : ((a : Int) + (b : Int)) / 2 = (M : Int) := by omega
        obtain ⟨nn, hnn⟩ : ∃ k, k = M + m := ⟨_, rfl⟩
        have HNI : Hid ((M : Int) + (m : Int) = (nn : Int)) := by show _ = _; omega
        obtain ⟨pp, hpp⟩ : ∃ k, k + 1 = nn := ⟨nn - 1, by omega⟩
        have HPI : Hid ((nn : Int) - 1 = (pp : Int)) := by show _ = _; omega
        have HF2 : Hid (∀ (st en : Nat) (l1 l2 l3 : List D) (W' : World), st = symSt (fun a b => decide (c a b < 0)) a m b ys → en = nn - st → l1 = symL1 st m en ys → l2 = (if a < st ∧ st < M then symF (fun a b => decide (c a b < 0)) N a st M l1 else l1) → l3 = (if M < en ∧ en < b then symF (fun a b => decide (c a b < 0)) N M en b l2 else l2) → ST H g 163 2 f rest w ds l3 W' → ST H g 163 2 f rest w ds (symF (fun a b => decide (c a b < 0)) (N + 1) a m b ys) W') := by
          rintro st en l1 l2 l3 W' rfl rfl rfl rfl rfl h
          rw [HF1.out, ← hM, ← hnn]
          exact h
        have hMb : M < b := by omega
        have haM : a < M := by omega
        have hMN1 : M - a ≤ N := by omega
        have hMN2 : b - M ≤ N := by omega
        have h2M : a + b ≤ 2 * M + 1 := by omega
        have h2M' : 2 * M ≤ a + b := by omega
        have HNN := Lib.hid hnn
        have HPP := Lib.hid hpp
        have HSY : Hid (symSt (fun a b => decide (c a b < 0)) a m b ys = bsF (fun h => !ltAt (fun a b => decide (c a b < 0)) ys (pp - h) h) (symR0 a m b - symS0 a m b) (symS0 a m b) (symR0 a m b)) := by
          show _ = _
          unfold symSt
          rw [← hM, ← hnn, show nn - 1 = pp from by omega]
        obtain ⟨S0, R0, hS0, hR0, hSR, hcase⟩ : ∃ S0 R0, symS0 a m b = S0 ∧ symR0 a m b = R0 ∧ S0 ≤ R0 ∧ ((M < m ∧ S0 + b = nn ∧ R0 = M) ∨ (m ≤ M ∧ S0 = a ∧ R0 = m)) := by
          refine ⟨_, _, rfl, rfl, ?_⟩
          unfold symS0 symR0
          rw [← hM, ← hnn]
          split
          · refine ⟨by omega, Or.inl ⟨by omega, by omega, rfl⟩⟩
          · exact ⟨by omega, Or.inr ⟨by omega, rfl, rfl⟩⟩
        rw [hS0, hR0] at HSY
        have hRb : R0 ≤ M := by omega
        have hSa : a ≤ S0 := by omega
        have hRm : R0 ≤ m := by omega
        have hSb : nn ≤ S0 + b := by omega
        have hRM : M ≤ nn - R0 := by omega
        clear hS0 hR0 HF1 hM hpp
        go_enter Tryz.func146, Tryz.ntmps146
        have hnn2 : nn ≤ 2 * n := by omega
        have hnn1 : 1 ≤ nn := by omega
        clear hnn
        go_upto_region 26 with (fail)
        rw [HNI.out]
        go_upto_if 140 with (fail)
        go_cut [20, 21] (fun s20 s21 wx => s20 = .int .i64 (S0 : Int) ∧ s21 = .int .i64 (R0 : Int) ∧ wx = W)
        case first => as_aux_lemma =>
          rcases hcase with ⟨q1, q2, q3⟩ | ⟨q1, q2, q3⟩
          · have k5 : (M : Int) < (m : Int) := by omega
            have K7 : Hid ((nn : Int) - (b : Int) = (S0 : Int)) := by show _ = _; omega
            have Q3 := Lib.hid q3
            clear q2 q3
            go_wp2_with fail
            go_meet
            exact ⟨by rw [K7.out], by rw [Q3.out], rfl⟩
          · have k5 : ¬ (M : Int) < (m : Int) := by omega
            have Q2 := Lib.hid q2
            have Q3 := Lib.hid q3
            clear q2 q3
            go_wp2_with fail
            go_meet
            exact ⟨by rw [Q2.out], by rw [Q3.out], rfl⟩
        case rest =>
        obtain ⟨rfl, rfl, rfl⟩ := hcut
        have HIN : Hid (S0 ≤ symSt (fun a b => decide (c a b < 0)) a m b ys ∧ symSt (fun a b => decide (c a b < 0)) a m b ys ≤ R0) := by
          rw [HSY.out]
          exact bsF_in _ _ hSR
        clear hcase e1 e2
        go_wp2_with fail
        rw [HPI.out]
        go_loopw [20, 21] (fun t u wr => ∃ (i j q : Nat), S0 ≤ i ∧ i ≤ j ∧ j ≤ R0 ∧ j - i ≤ q ∧ t = .int .i64 i ∧ u = .int .i64 j ∧ Hid (bsF (fun h => !ltAt (fun a b => decide (c a b < 0)) ys (pp - h) h) q i j = symSt (fun a b => decide (c a b < 0)) a m b ys) ∧ Hid (ST H g 163 2 f rest w ds ys wr)) (fun t u _ => (intOf u).toNat - (intOf t).toNat)
        case atStart => exact ⟨S0, R0, R0 - S0, by omega, by omega, by omega, by omega, rfl, rfl, HSY.out.symm, HS⟩
        case round =>
          obtain ⟨i, j, q, hmi, hij, hjb, hq, rfl, rfl, hB, J⟩ := hrel
          clear HS
          by_cases hlt : i < j
          · as_aux_lemma =>
            have e1 : IntKind.i64.wrap ((i : Int) + (j : Int)) = (i : Int) + (j : Int) := IntWalk.i64_in _ (by omega)
            obtain ⟨h, hh⟩ : ∃ h, h = (i + j) / 2 := ⟨_, rfl⟩
            have k2 : ((i : Int) + (j : Int)) / 2 = (h : Int) := by omega
            have hhb : h < R0 := by omega
            have hmh : S0 ≤ h := by omega
            have hih : i ≤ h := by omega
            have hhj : h < j := by omega
            obtain ⟨q, rfl⟩ : ∃ k, q = k + 1 := ⟨q - 1, by omega⟩
            obtain ⟨v, hv⟩ : ∃ v, v = pp - h := ⟨_, rfl⟩
            have hvn : v < n := by have := HNN.out; have := HPP.out; omega
            have e7 : IntKind.i64.wrap ((pp : Int) - (h : Int)) = (v : Int) := by
              have := HNN.out
              have := HPP.out
              rw [show (pp : Int) - (h : Int) = v from by omega]
              exact IntWalk.i64_in _ (by omega)
            have e8 : (v : Int) < n := by omega
            have e9 : IntKind.i64.wrap (v : Int) = (v : Int) := IntWalk.i64_in _ (by omega)
            have HY2 : Hid ((!ltAt (fun a b => decide (c a b < 0)) ys v h) = true → bsF (fun h => !ltAt (fun a b => decide (c a b < 0)) ys (pp - h) h) q (h + 1) j = symSt (fun a b => decide (c a b < 0)) a m b ys) := fun hp => by
              have := hB.out
              rw [bsF_yes hlt (by rw [← hh, ← hv]; exact hp), ← hh] at this
              exact this
            have HN2 : Hid ((!ltAt (fun a b => decide (c a b < 0)) ys v h) = false → bsF (fun h => !ltAt (fun a b => decide (c a b < 0)) ys (pp - h) h) q i h = symSt (fun a b => decide (c a b < 0)) a m b ys) := fun hp => by
              have := hB.out
              rw [bsF_no hlt (by rw [← hh, ← hv]; exact hp), ← hh] at this
              exact this
            have e3 : (h : Int) < n := by omega
            have e4 : (h : Int) < n := by omega
            have hql : j - (h + 1) ≤ q := by omega
            have hqr : h - i ≤ q := by omega
            clear hh hB hv
            have hI : v < ys.length := by rw [J.out.len, HL.out]; omega
            have hJ : h < ys.length := by rw [J.out.len, HL.out]; omega
            have c0 : wr.cell? ⟨g, v * 2, none⟩ = some (f ys[v] 0) := J.out.blk.cell v 0 hI (by omega)
            have c1 : wr.cell? ⟨g, v * 2 + 1, none⟩ = some (f ys[v] 1) := J.out.blk.cell v 1 hI (by omega)
            have d0 : wr.cell? ⟨g, h * 2, none⟩ = some (f ys[h] 0) := J.out.blk.cell h 0 hJ (by omega)
            have d1 : wr.cell? ⟨g, h * 2 + 1, none⟩ = some (f ys[h] 1) := J.out.blk.cell h 1 hJ (by omega)
            have HXM := Lib.hid (J.out.mem (List.getElem_mem hI))
            have HYM := Lib.hid (J.out.mem (List.getElem_mem hJ))
            have HLT : Hid (ltAt (fun a b => decide (c a b < 0)) ys v h = decide (c ys[v] ys[h] < 0)) := ltAt_at hI hJ
            generalize ys[v] = x at *
            generalize ys[h] = y at *
            clear hI hJ
            go_wp2_with fail
            go_still_tail 11, (by kernel_rfl)
            change wpList _ _ _ _ _ wr.drew
            go_wp2_with fail
            refine (HC.out.cmp wr.drew x y J.out.inn HXM.out HYM.out).mono ?_
            rintro e w1 ⟨rfl, hb1⟩
            have J1 := Lib.hid (J.out.below (W' := w1) ((Below.refl _ wr).drew.trans hb1))
            clear c0 c1 d0 d1 J hb1 HXM HYM
            clear e1 k2 e7 e8 e9
            by_cases hr : c x y < 0
            · have hd : decide (c x y < 0) = true := by simpa using hr
              have HN3 := Lib.hid (HN2.out (by rw [HLT.out]; simpa using hr))
              clear HY2 HN2 HLT
              go_wp2_with fail
              go_roundw
              case rel => exact ⟨i, h, q, by omega, by omega, by omega, by omega, rfl, rfl, HN3, J1⟩
              case measure => simp [intOf]; omega
            · have hd : decide (c x y < 0) = false := by simpa using hr
              have HY3 := Lib.hid (HY2.out (by rw [HLT.out]; simpa using hr))
              clear HY2 HN2 HLT
              go_wp2_with fail
              go_roundw
              case rel => exact ⟨h + 1, j, q, by omega, by omega, by omega, by omega, by go_num, rfl, HY3, J1⟩
              case measure => simp [intOf]; omega
          · have hie : symSt (fun a b => decide (c a b < 0)) a m b ys = i := by
              have := hB.out
              rw [bsF_end _ _ (by omega)] at this
              exact this.symm
            rw [hie] at HIN
            have hiS : S0 ≤ i := HIN.out.1
            have hiR : i ≤ R0 := HIN.out.2
            obtain ⟨en, hen⟩ : ∃ k, k = nn - i := ⟨_, rfl⟩
            have HEN : Hid ((nn : Int) - (i : Int) = (en : Int)) := by show _ = _; omega
            have HF3 : Hid (∀ (l1 l2 l3 : List D) (W' : World), l1 = symL1 i m en ys → l2 = (if a < i ∧ i < M then symF (fun a b => decide (c a b < 0)) N a i M l1 else l1) → l3 = (if M < en ∧ en < b then symF (fun a b => decide (c a b < 0)) N M en b l2 else l2) → ST H g 163 2 f rest w ds l3 W' → ST H g 163 2 f rest w ds (symF (fun a b => decide (c a b < 0)) (N + 1) a m b ys) W') := by
              intro l1 l2 l3 W' g1 g2 g3 h
              exact HF2.out i en l1 l2 l3 W' hie.symm hen g1 g2 g3 h
            have hem : m ≤ en + i ∧ en ≤ b ∧ M ≤ en := by have := HNN.out; omega
            obtain ⟨he1, he2, he3⟩ := hem
            have hai : a ≤ i := by omega
            have hiM : i ≤ M := by omega
            have him : i ≤ m := by omega
            have hme : i < m → m < en ∨ en ≤ m := by omega
            clear HF2 HSY hB hie hen HIN HNN HPP hij hjb hq hmi
            go_upto_region 39 with (fail)
            rw [HEN.out]
            go_cut [185] (fun sc wx => ∃ cb : Bool, sc = .bool cb ∧ Hid (CbIs cb (i < m ∧ m < en)) ∧ wx = wr)
            case first => as_aux_lemma =>
              by_cases q1 : i < m
              · have k5 : (i : Int) < (m : Int) := by omega
                by_cases q2 : m < en
                · have k6 : (m : Int) < (en : Int) := by omega
                  have k7 : Hid (CbIs true (i < m ∧ m < en)) := ⟨fun _ => ⟨q1, q2⟩, fun _ => rfl⟩
                  go_wp2_with fail
                  go_meet
                  exact ⟨_, rfl, k7, rfl⟩
                · have k6 : ¬ (m : Int) < (en : Int) := by omega
                  have k7 : Hid (CbIs false (i < m ∧ m < en)) := ⟨fun h => (by cases h), fun h => (q2 h.2).elim⟩
                  go_wp2_with fail
                  go_meet
                  exact ⟨_, rfl, k7, rfl⟩
              · have k5 : ¬ (i : Int) < (m : Int) := by omega
                have k7 : Hid (CbIs false (i < m ∧ m < en)) := ⟨fun h => (by cases h), fun h => (q1 h.1).elim⟩
                go_wp2_with fail
                go_meet
                exact ⟨_, rfl, k7, rfl⟩
            case rest =>
            obtain ⟨cb, rfl, hcb, hwx⟩ := hcut
            obtain rfl := hwx.symm
            go_upto_if 185 with (fail)
            go_cut [185] (fun sc wx => Hid (ST H g 163 2 f rest w ds (if i < m ∧ m < en then rotF m (m - i + (en - m)) (m - i) (en - m) ys else ys) wx))
            case first => as_aux_lemma =>
              cases cb with
              | true =>
                have qq : i < m ∧ m < en := hcb.out.1 rfl
                have HL1 : Hid (∀ W', ST H g 163 2 f rest w ds (rotF m (m - i + (en - m)) (m - i) (en - m) ys) W' → ST H g 163 2 f rest w ds (if i < m ∧ m < en then rotF m (m - i + (en - m)) (m - i) (en - m) ys else ys) W') := by
                  intro W' h
                  rw [if_pos qq]
                  exact h
                have HR := Lib.hid (HRO.out i m en qq.1 qq.2 (by omega) ys _ J.out)
                clear qq hcb
                go_wp2_with fail
                refine HR.out.mono ?_
                rintro e W2 ⟨rfl, hs⟩
                have HS2 := Lib.hid (HL1.out _ hs)
                clear hs HR HL1
                go_wp2_with fail
                go_meet
                exact HS2
              | false =>
                have qq : ¬ (i < m ∧ m < en) := fun h => (by have := hcb.out.2 h; cases this)
                have HL1 : Hid (ST H g 163 2 f rest w ds (if i < m ∧ m < en then rotF m (m - i + (en - m)) (m - i) (en - m) ys else ys) wr) := by
                  show ST _ _ _ _ _ _ _ _ _ _
                  rw [if_neg qq]
                  exact J.out
                clear qq hcb
                go_wp2_with fail
                go_meet
                exact HL1
            case rest =>
            have HL1 := hcut
            clear hcut
            have HL2 : Hid (ST H g 163 2 f rest w ds (symL1 i m en ys) wc) := HL1.out
            generalize hl1 : symL1 i m en ys = l1 at HL2
            have HD1 := Lib.hid hl1
            clear hl1 HL1 J
            obtain ⟨wd, rfl⟩ : ∃ wd : World, wd = wc := ⟨_, rfl⟩
            go_upto_region 41 with (fail)
            go_cut [199] (fun sc wx => ∃ cb : Bool, sc = .bool cb ∧ Hid (CbIs cb (a < i ∧ i < M)) ∧ wx = wd)
            case first => as_aux_lemma =>
              by_cases q1 : a < i
              · have k5 : (a : Int) < (i : Int) := by omega
                by_cases q2 : i < M
                · have k6 : (i : Int) < (M : Int) := by omega
                  have k7 : Hid (CbIs true (a < i ∧ i < M)) := ⟨fun _ => ⟨q1, q2⟩, fun _ => rfl⟩
                  go_wp2_with fail
                  go_meet
                  exact ⟨_, rfl, k7, rfl⟩
                · have k6 : ¬ (i : Int) < (M : Int) := by omega
                  have k7 : Hid (CbIs false (a < i ∧ i < M)) := ⟨fun h => (by cases h), fun h => (q2 h.2).elim⟩
                  go_wp2_with fail
                  go_meet
                  exact ⟨_, rfl, k7, rfl⟩
              · have k5 : ¬ (a : Int) < (i : Int) := by omega
                have k7 : Hid (CbIs false (a < i ∧ i < M)) := ⟨fun h => (by cases h), fun h => (q1 h.1).elim⟩
                go_wp2_with fail
                go_meet
                exact ⟨_, rfl, k7, rfl⟩
            case rest =>
            obtain ⟨cb, rfl, hcb, hwx⟩ := hcut
            obtain rfl := hwx.symm
            go_upto_if 199 with (fail)
            go_cut [199] (fun sc wx => Hid (ST H g 163 2 f rest w ds (if a < i ∧ i < M then symF (fun a b => decide (c a b < 0)) N a i M l1 else l1) wx))
            case first => as_aux_lemma =>
              cases cb with
              | true =>
                have qq : a < i ∧ i < M := hcb.out.1 rfl
                have HL1 : Hid (∀ W', ST H g 163 2 f rest w ds (symF (fun a b => decide (c a b < 0)) N a i M l1) W' → ST H g 163 2 f rest w ds (if a < i ∧ i < M then symF (fun a b => decide (c a b < 0)) N a i M l1 else l1) W') := by
                  intro W' h
                  rw [if_pos qq]
                  exact h
                have HR := Lib.hid (HIH.out a i M qq.1 qq.2 (by omega) (by omega) l1 _ HL2.out)
                clear qq hcb
                go_wp2_with fail
                refine HR.out.mono ?_
                rintro e W2 ⟨rfl, hs⟩
                have HS2 := Lib.hid (HL1.out _ hs)
                clear hs HR HL1
                go_wp2_with fail
                go_meet
                exact HS2
              | false =>
                have qq : ¬ (a < i ∧ i < M) := fun h => (by have := hcb.out.2 h; cases this)
                have HL1 : Hid (ST H g 163 2 f rest w ds (if a < i ∧ i < M then symF (fun a b => decide (c a b < 0)) N a i M l1 else l1) wd) := by
                  show ST _ _ _ _ _ _ _ _ _ _
                  rw [if_neg qq]
                  exact HL2.out
                clear qq hcb
                go_wp2_with fail
                go_meet
                exact HL1
            case rest =>
            have HL3 := hcut
            clear hcut
            generalize hl2 : (if a < i ∧ i < M then symF (fun a b => decide (c a b < 0)) N a i M l1 else l1) = l2 at HL3
            have HD2 := Lib.hid hl2
            clear hl2 HL2
            obtain ⟨we, rfl⟩ : ∃ we : World, we = wc := ⟨_, rfl⟩
            go_upto_region 43 with (fail)
            go_cut [213] (fun sc wx => ∃ cb : Bool, sc = .bool cb ∧ Hid (CbIs cb (M < en ∧ en < b)) ∧ wx = we)
            case first => as_aux_lemma =>
              by_cases q1 : M < en
              · have k5 : (M : Int) < (en : Int) := by omega
                by_cases q2 : en < b
                · have k6 : (en : Int) < (b : Int) := by omega
                  have k7 : Hid (CbIs true (M < en ∧ en < b)) := ⟨fun _ => ⟨q1, q2⟩, fun _ => rfl⟩
                  go_wp2_with fail
                  go_meet
                  exact ⟨_, rfl, k7, rfl⟩
                · have k6 : ¬ (en : Int) < (b : Int) := by omega
                  have k7 : Hid (CbIs false (M < en ∧ en < b)) := ⟨fun h => (by cases h), fun h => (q2 h.2).elim⟩
                  go_wp2_with fail
                  go_meet
                  exact ⟨_, rfl, k7, rfl⟩
              · have k5 : ¬ (M : Int) < (en : Int) := by omega
                have k7 : Hid (CbIs false (M < en ∧ en < b)) := ⟨fun h => (by cases h), fun h => (q1 h.1).elim⟩
                go_wp2_with fail
                go_meet
                exact ⟨_, rfl, k7, rfl⟩
            case rest =>
            obtain ⟨cb, rfl, hcb, hwx⟩ := hcut
            obtain rfl := hwx.symm
            go_upto_if 213 with (fail)
            cases cb with
            | true =>
              have qq : M < en ∧ en < b := hcb.out.1 rfl
              have HL1 : Hid (∀ W', ST H g 163 2 f rest w ds (symF (fun a b => decide (c a b < 0)) N M en b l2) W' → ST H g 163 2 f rest w ds (if M < en ∧ en < b then symF (fun a b => decide (c a b < 0)) N M en b l2 else l2) W') := by
                intro W' h
                rw [if_pos qq]
                exact h
              have HR := Lib.hid (HIH.out M en b qq.1 qq.2 (by omega) (by omega) l2 _ HL3.out)
              clear qq hcb
              go_wp2_with fail
              refine HR.out.mono ?_
              rintro e W2 ⟨rfl, hs⟩
              have HS2 := Lib.hid (HL1.out _ hs)
              clear hs HR HL1
              go_wp2_with fail
              have HE := Lib.hid (HF3.out l1 l2 _ _ HD1.out.symm HD2.out.symm rfl HS2.out)
              go_end0
              exact ⟨rfl, HE.out⟩
            | false =>
              have qq : ¬ (M < en ∧ en < b) := fun h => (by have := hcb.out.2 h; cases this)
              have HL1 : Hid (ST H g 163 2 f rest w ds (if M < en ∧ en < b then symF (fun a b => decide (c a b < 0)) N M en b l2 else l2) we) := by
                show ST _ _ _ _ _ _ _ _ _ _
                rw [if_neg qq]
                exact HL3.out
              clear qq hcb
              go_wp2_with fail
              have HE := Lib.hid (HF3.out l1 l2 _ _ HD1.out.symm HD2.out.symm rfl HL1.out)
              go_end0
              exact ⟨rfl, HE.out⟩
end
end Go.Proofs.YtihcmifikbkbcaaGreat

/- symMerge, at elements of 2 cells. -/
namespace Go.Proofs.YtihcmifikbkbcaaGreat
set_option linter.unusedVariables false
open Go.RowKit
section
variable {D : Type}
set_option maxHeartbeats 4000000 in
set_option maxRecDepth 100000 in
theorem symMerge_Pc {H : Frz} {f : D → Nat → Value} {kf : Nat} {caps : List Value} {c : D → D → Int} {ds : List D} {g n cap : Nat} {rest : List Value} {w : World} (hc : SC H f kf caps c ds g n cap) : ∀ (N a m b : Nat) (ham : a < m) (hmb : m < b) (hb : b ≤ n) (hN : b - a ≤ N) (ys : List D) (W : World) (hS : ST H g 163 2 f rest w ds ys W),
    Calls Tryz.prog 146 #[.slice (some ⟨g, 0, none⟩) n cap, .int .i64 a, .int .i64 m, .int .i64 b, .func (.func kf) #[] caps.toArray] W fun e W' => e = .returned (.tuple #[]) ∧ ST H g 163 2 f rest w ds (symF (fun a b => decide (c a b < 0)) N a m b ys) W' := by
  intro N
  induction N with
  | zero => intro a m b ham hmb hb hN; omega
  | succ N ih =>
    intro a m b ham hmb hb hN ys W hS
    have HIH : Hid (∀ (a m b : Nat), a < m → m < b → b ≤ n → b - a ≤ N → ∀ (ys : List D) (W : World), ST H g 163 2 f rest w ds ys W → Calls Tryz.prog 146 #[.slice (some ⟨g, 0, none⟩) n cap, .int .i64 a, .int .i64 m, .int .i64 b, .func (.func kf) #[] caps.toArray] W fun e W' => e = .returned (.tuple #[]) ∧ ST H g 163 2 f rest w ds (symF (fun a b => decide (c a b < 0)) N a m b ys) W') := fun a m b h1 h2 h3 h4 ys W h5 => ih a m b h1 h2 h3 h4 ys W h5
    clear ih
    by_cases h1 : m - a = 1
    · exact symMerge1_Pc hc N a m b ham hmb hb hN ys W hS h1
    · by_cases h2 : b - m = 1
      · exact symMerge2_Pc hc N a m b ham hmb hb hN ys W hS h1 h2
      · exact symMerge3_Pc hc N a m b ham hmb hb hN ys W hS h1 h2 HIH
end
end Go.Proofs.YtihcmifikbkbcaaGreat

/- stable and SortStableFunc, at elements of 2 cells. -/
namespace Go.Proofs.YtihcmifikbkbcaaGreat
set_option linter.unusedVariables false
open Go.RowKit
section
variable {D : Type}
set_option maxHeartbeats 4000000 in
set_option maxRecDepth 100000 in
theorem stable_Pc {H : Frz} {f : D → Nat → Value} {kf : Nat} {caps : List Value} {c : D → D → Int} {ds : List D} {g n cap : Nat} {rest : List Value} {w : World} (hc : SC H f kf caps c ds g n cap) (ys : List D) (W : World) (hS : ST H g 163 2 f rest w ds ys W) :
    Calls Tryz.prog 133 #[.slice (some ⟨g, 0, none⟩) n cap, .int .i64 n, .func (.func kf) #[] caps.toArray] W fun e W' => e = .returned (.tuple #[]) ∧ ST H g 163 2 f rest w ds (stabF (fun a b => decide (c a b < 0)) ys) W' := by
  have HIB := Lib.hid (fun a b h1 h2 ys W hS => insB_Pc (rest := rest) (w := w) hc a b h1 h2 ys W hS)
  have HSM := Lib.hid (fun N a m b h1 h2 h3 h4 ys W hS => symMerge_Pc (rest := rest) (w := w) hc N a m b h1 h2 h3 h4 ys W hS)
  have hsm := hc.small
  have hcap := hc.cap
  have HL := Lib.hid hc.len
  have HS := Lib.hid hS
  have HF : Hid (stabF (fun a b => decide (c a b < 0)) ys = st3 (fun a b => decide (c a b < 0)) n (n + 1) 20 (st1 (fun a b => decide (c a b < 0)) n (n + 1) 0 ys)) := by
    show _ = _
    have : ys.length = n := hS.len.trans hc.len
    unfold stabF
    rw [this]
  clear hc hS
  go_enter Tryz.func133, Tryz.ntmps133
  go_wp2_with fail
  go_loopw [7, 8] (fun t u wr => ∃ (a b q : Nat) (zs : List D), a ≤ n ∧ b = a + 20 ∧ n - a < q ∧ t = .int .i64 a ∧ u = .int .i64 b ∧ Hid (st1 (fun a b => decide (c a b < 0)) n q a zs = st1 (fun a b => decide (c a b < 0)) n (n + 1) 0 ys) ∧ Hid (ST H g 163 2 f rest w ds zs wr)) (fun t _ _ => n - (intOf t).toNat)
  case atStart => exact ⟨0, 20, n + 1, ys, by omega, by omega, by omega, rfl, rfl, rfl, HS⟩
  case round =>
    obtain ⟨a, b, q, zs, ha, hb, hq, rfl, rfl, hG, J⟩ := hrel
    clear HS
    obtain ⟨q, rfl⟩ : ∃ k, q = k + 1 := ⟨q - 1, by omega⟩
    by_cases hlt : b ≤ n
    · have hlt2 : (b : Int) ≤ (n : Int) := by omega
      have HG2 : Hid (st1 (fun a b => decide (c a b < 0)) n q b (insB (fun a b => decide (c a b < 0)) a b zs) = st1 (fun a b => decide (c a b < 0)) n (n + 1) 0 ys) := by
        show _ = _
        rw [← hG.out, st1, if_pos (by omega), hb]
      have HI := Lib.hid (HIB.out a b (by omega) hlt zs _ J.out)
      have e1 : IntKind.i64.wrap ((b : Int) + 20) = ((b + 20 : Nat) : Int) := by rw [show (b : Int) + 20 = ((b + 20 : Nat) : Int) from by omega]; exact IntWalk.i64_in _ (by omega)
      have e2 : (b : Int) + 20 = ((b + 20 : Nat) : Int) := by omega
      have E2 := Lib.hid e2
      have hqb : n - b < q := by omega
      have hab : a < b := by omega
      clear hG J e1 e2 hb
      go_wp2_with fail
      refine HI.out.mono ?_
      rintro e W2 ⟨rfl, hs⟩
      have HS2 := Lib.hid hs
      clear hs HI
      go_wp2_with fail
      go_roundw
      case rel => exact ⟨b, b + 20, q, _, by omega, rfl, by omega, rfl, by rw [E2.out], HG2, HS2⟩
      case measure => simp [intOf]; omega
    · have hlt2 : ¬ (b : Int) ≤ (n : Int) := by omega
      have HG2 : Hid (insB (fun a b => decide (c a b < 0)) a n zs = st1 (fun a b => decide (c a b < 0)) n (n + 1) 0 ys) := by
        show _ = _
        rw [← hG.out, st1, if_neg (by omega)]
      have HI := Lib.hid (HIB.out a n ha (Nat.le_refl _) zs _ J.out)
      clear hG J hb
      go_wp2_with fail
      refine HI.out.mono ?_
      rintro e W2 ⟨rfl, hs⟩
      rw [HG2.out] at hs
      have HS2 := Lib.hid hs
      clear hs HI HG2 hlt hlt2 hq
      generalize st1 (fun a b => decide (c a b < 0)) n (n + 1) 0 ys = y1 at HS2 HF
      go_wp2_with fail
      go_loopw [6] (fun t wr => ∃ (bs q : Nat) (zs : List D), 20 ≤ bs ∧ bs ≤ 200000 ∧ n < bs + q ∧ t = .int .i64 bs ∧ Hid (st3 (fun a b => decide (c a b < 0)) n q bs zs = st3 (fun a b => decide (c a b < 0)) n (n + 1) 20 y1) ∧ Hid (ST H g 163 2 f rest w ds zs wr)) (fun t _ => n - (intOf t).toNat)
      case atStart => exact ⟨20, n + 1, y1, by omega, by omega, by omega, rfl, rfl, HS2⟩
      case round =>
        obtain ⟨bs, q, zs, hb1, hb2, hq, rfl, hG, J⟩ := hrel
        clear HS2
        by_cases hlt : bs < n
        · have hlt2 : (bs : Int) < (n : Int) := by omega
          obtain ⟨q, rfl⟩ : ∃ k, q = k + 1 := ⟨q - 1, by omega⟩
          have HG2 : Hid (st3 (fun a b => decide (c a b < 0)) n q (2 * bs) (st2 (fun a b => decide (c a b < 0)) n bs (n + 1) 0 zs) = st3 (fun a b => decide (c a b < 0)) n (n + 1) 20 y1) := by
            show _ = _
            rw [← hG.out, st3, if_pos hlt]
          have e1 : IntKind.i64.wrap (2 * (bs : Int)) = ((2 * bs : Nat) : Int) := by rw [show 2 * (bs : Int) = ((2 * bs : Nat) : Int) from by omega]; exact IntWalk.i64_in _ (by omega)
          have e2 : 2 * (bs : Int) = ((2 * bs : Nat) : Int) := by omega
          have e3 : (bs : Int) * 2 = ((2 * bs : Nat) : Int) := by omega
          have E2 := Lib.hid e2
          have E3 := Lib.hid e3
          clear hG e1 e2 e3
          obtain ⟨wo, rfl⟩ : ∃ wo : World, wo = wr := ⟨_, rfl⟩
          go_wp2_with fail
          go_loopw [7, 8] (fun t u wr => ∃ (a b q : Nat) (xs : List D), a ≤ n ∧ b = a + 2 * bs ∧ n - a < q ∧ t = .int .i64 a ∧ u = .int .i64 b ∧ Hid (st2 (fun a b => decide (c a b < 0)) n bs q a xs = st2 (fun a b => decide (c a b < 0)) n bs (n + 1) 0 zs) ∧ Hid (ST H g 163 2 f rest w ds xs wr)) (fun t _ _ => n - (intOf t).toNat)
          case atStart => exact ⟨0, 2 * bs, n + 1, zs, by omega, by omega, by omega, rfl, by rw [E2.out], rfl, J⟩
          case round =>
            obtain ⟨a, b, p, xs, ha, hb, hp, rfl, rfl, hG3, J⟩ := hrel
            obtain ⟨p, rfl⟩ : ∃ k, p = k + 1 := ⟨p - 1, by omega⟩
            obtain ⟨m, hm⟩ : ∃ m, m = a + bs := ⟨_, rfl⟩
            have e1 : IntKind.i64.wrap ((a : Int) + (bs : Int)) = (m : Int) := by rw [show (a : Int) + (bs : Int) = (m : Int) from by omega]; exact IntWalk.i64_in _ (by omega)
            have e2 : (a : Int) + (bs : Int) = (m : Int) := by omega
            by_cases hlb : b ≤ n
            · have hlb2 : (b : Int) ≤ (n : Int) := by omega
              have HG4 : Hid (st2 (fun a b => decide (c a b < 0)) n bs p b (symF (fun a b => decide (c a b < 0)) (2 * bs) a m b xs) = st2 (fun a b => decide (c a b < 0)) n bs (n + 1) 0 zs) := by
                show _ = _
                rw [← hG3.out, st2, if_pos (by omega), hb, hm]
              have HI := Lib.hid (HSM.out (2 * bs) a m b (by omega) (by omega) hlb (by omega) xs _ J.out)
              have e4 : IntKind.i64.wrap ((b : Int) + ((2 * bs : Nat) : Int)) = ((b + 2 * bs : Nat) : Int) := by rw [show (b : Int) + ((2 * bs : Nat) : Int) = ((b + 2 * bs : Nat) : Int) from by omega]; exact IntWalk.i64_in _ (by omega)
              have E4 : Hid ((b : Int) + 2 * (bs : Int) = ((b + 2 * bs : Nat) : Int)) := by show _ = _; omega
              have hpb : n - b < p := by omega
              have hab : a < b := by omega
              have hm2 : m ≤ n := by omega
              clear hG3 J hb hm e4
              go_wp2_with fail
              refine HI.out.mono ?_
              rintro e W2 ⟨rfl, hs⟩
              have HS2 := Lib.hid hs
              clear hs HI e1 e2
              go_wp2_with fail
              go_roundw
              case rel => exact ⟨b, b + 2 * bs, p, _, by omega, rfl, by omega, rfl, by rw [E4.out], HG4, HS2⟩
              case measure => simp [intOf]; omega
            · have hlb2 : ¬ (b : Int) ≤ (n : Int) := by omega
              by_cases hmn : m < n
              · have hmn2 : (m : Int) < (n : Int) := by omega
                have HG4 : Hid (symF (fun a b => decide (c a b < 0)) (n - a) a m n xs = st2 (fun a b => decide (c a b < 0)) n bs (n + 1) 0 zs) := by
                  show _ = _
                  rw [← hG3.out, st2, if_neg (by omega), if_pos (by omega), hm]
                have HI := Lib.hid (HSM.out (n - a) a m n (by omega) hmn (Nat.le_refl _) (by omega) xs _ J.out)
                clear hG3 J hb hm
                go_wp2_with fail
                refine HI.out.mono ?_
                rintro e W2 ⟨rfl, hs⟩
                rw [HG4.out] at hs
                have HS2 := Lib.hid hs
                clear hs HI e1 e2 HG4
                go_wp2_with fail
                go_roundw
                case rel => exact ⟨2 * bs, q, _, by omega, by omega, by omega, by rw [E3.out], HG2, HS2⟩
                case measure => simp [intOf]; omega
              · have hmn2 : ¬ (m : Int) < (n : Int) := by omega
                have HS2 : Hid (ST H g 163 2 f rest w ds (st2 (fun a b => decide (c a b < 0)) n bs (n + 1) 0 zs) wr) := by
                  show ST _ _ _ _ _ _ _ _ _ _
                  rw [← hG3.out, st2, if_neg (by omega), if_neg (by omega)]
                  exact J.out
                clear hG3 J hb hm
                go_wp2_with fail
                clear e1 e2
                go_roundw
                case rel => exact ⟨2 * bs, q, _, by omega, by omega, by omega, by rw [E3.out], HG2, HS2⟩
                case measure => simp [intOf]; omega
        · have hlt2 : ¬ (bs : Int) < (n : Int) := by omega
          have HE : Hid (ST H g 163 2 f rest w ds (stabF (fun a b => decide (c a b < 0)) ys) wr) := by
            show ST _ _ _ _ _ _ _ _ _ _
            rw [HF.out, ← hG.out]
            have : st3 (fun a b => decide (c a b < 0)) n q bs zs = zs := by
              cases q with
              | zero => rfl
              | succ q => rw [st3, if_neg hlt]
            rw [this]
            exact J.out
          go_wp2_with fail
          go_end0
          exact ⟨rfl, HE.out⟩
set_option maxHeartbeats 1000000 in
theorem sortStable_nil_Pc (A : Option Addr) (cap : Nat) (fv : Value) (w : World) :
    Calls Tryz.prog 113 #[.slice A 0 cap, fv] w fun e w' => e = .returned (.tuple #[]) ∧ w = w' := by
  go_enter Tryz.func113, Tryz.ntmps113
  go_wp2
  refine wp_loop_rounds 1 ?_
  rw [rounds_succ]
  go_wp2
  refine wp_loop_rounds 1 ?_
  rw [rounds_succ]
  go_wp2
  go_end0
  go_wp2
  refine wp_loop_rounds 1 ?_
  rw [rounds_succ]
  go_wp2
  go_end0
  go_wp2
  go_end0
  exact ⟨rfl, rfl⟩
set_option maxHeartbeats 1000000 in
/-- SortStableFunc at a row of the call's own. -/
theorem sortStab_Pc (H : Frz) (f : D → Nat → Value) (kf : Nat) (caps : List Value) (c : D → D → Int) (ds : List D) (hf1 : ∀ d ∈ ds, ∀ m, (f d m).oneCell' = true)
    (hcmp : ∀ (W : World) (a b : D), H.In W → a ∈ ds → b ∈ ds → Calls Tryz.prog kf ((.agg #[f a 0, f a 1]) :: (.agg #[f b 0, f b 1]) :: caps).toArray W fun e W' => e = .returned (.int .i64 (c a b)) ∧ Below W.heap.size W W')
    (hcall : ∀ (a b : Value) (W : World), (callFunc kf (a :: b :: caps).toArray).run Tryz.prog W = .ok (.enter kf (a :: b :: caps).toArray) W)
    (v : Value) (B : Nat) (w : World) (hn : ds.length ≤ 100000) (hH : H.In w) (hHB : ∀ g, v.ownBlock = some g → H g = none) (hO : Orow w B 163 2 f v ds) :
    Calls Tryz.prog 113 #[v, .func (.func kf) #[] caps.toArray] w fun e w' =>
      e = .returned (.tuple #[]) ∧ Orow w' B 163 2 f v (stabF (fun a b => decide (c a b < 0)) ds) ∧ w.grownBy w' v.ownBlock ∧ H.In w' := by
  rcases hO.2 with ⟨rfl, h0⟩ | ⟨g, cap, cur, rfl, hBg, hh, hle, hm, hs, ht⟩
  · have : ds = [] := List.eq_nil_of_length_eq_zero h0
    subst this
    refine (sortStable_nil_Pc none 0 _ w).mono ?_
    rintro e w' ⟨rfl, rfl⟩
    rw [stabF_nil]
    exact ⟨rfl, hO, World.grownBy.refl _ _, hH⟩
  · have hK : KBlk w g 163 2 f ds (cur.toList.drop (ds.length * 2)) := by
      unfold KBlk
      rw [← ht, List.take_append_drop]
      exact hh
    have hsc : SC H f kf caps c ds g ds.length cap := ⟨hf1, hcmp, hcall, rfl, hle, hn, hHB g rfl⟩
    have HI := Lib.hid (stable_Pc (rest := cur.toList.drop (ds.length * 2)) (w := w) hsc ds w ⟨hK, World.grownBy.refl _ _, hH, .refl _⟩)
    clear hcmp hcall hH hO hK hHB hf1 hsc
    go_enter Tryz.func113, Tryz.ntmps113
    go_wp2_with fail
    refine HI.out.mono ?_
    rintro e w1 ⟨rfl, J⟩
    have J := Lib.hid J
    clear HI
    go_wp2_with fail
    go_end0
    refine ⟨rfl, ?_, J.out.grown, J.out.inn⟩
    have hl : (stabF (fun a b => decide (c a b < 0)) ds).length = ds.length := (stabF_perm _ _).length_eq
    have := Orow.of_blk (B := B) J.out.blk hBg hm (by rw [hl]; exact hle) (by rw [hl]; simp [hs])
    rw [hl] at this
    exact this
end
end Go.Proofs.YtihcmifikbkbcaaGreat
