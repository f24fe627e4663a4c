/- Folding no cells; folding any; whether two lists of cells are the same. -/
import Derived.Test.YtadfoaopamlnpaaFold
import Derived.Test.YtadfoaopamlnpaaEqfCell
namespace Go.Proofs.Ytadfoaopamlnpaa
set_option linter.unusedVariables false
open Go.RowKit

theorem CellsOK_nil : CellsOK [] := ⟨by simp, fun i h => absurd h (by simp)⟩
set_option maxHeartbeats 1000000 in
set_option maxRecDepth 100000 in
theorem fold_nil (H : Frz) (A Ak : Option Addr) (cap capk : Nat) (ks : List Nat) (w : World) (hH : H.In w) (hK : Rw H Ak 1 fI ks) (hks : ks.length ≤ 1) (hk0 : ∀ k ∈ ks, k ≤ 5) :
    Calls Try.prog 24 #[.slice A 0 cap, .slice Ak ks.length capk] w (FoldPost H ks [] w) := by
  have HH := Lib.hid hH
  have HK := Lib.hid hK
  have HK0 := Lib.hid hk0
  clear hH hK hk0
  go_enter Try.func24, Try.ntmps24
  go_wp2_with fail
  refine (checkCells_any H A cap [] w HH.out Rw.nil (by intro d hd; cases hd) (by simp)).mono ?_
  rintro e W1 ⟨n, rfl, hn, hb1⟩
  obtain rfl := hn.2 CellsOK_nil
  have HB1 := Lib.hid hb1
  have hin1 := Lib.hid (HH.out.below hb1)
  clear hb1 hn
  go_wp2_with fail
  go_loop [35] (fun t => ∃ i : Nat, i ≤ ks.length ∧ t = .int .i64 i) (fun t => ks.length - (intOf t).toNat)
  case atStart => exact ⟨0, by omega, rfl⟩
  case round =>
    obtain ⟨i, hi, rfl⟩ := hrel
    by_cases hlt : i < ks.length
    · obtain ⟨bk, offk, rfl, -, hck⟩ := HK.out.at_ hin1.out hlt (by omega)
      have ck : W1.cell? ⟨bk, offk + i, none⟩ = some (.int .i64 (ks[i] : Int)) := by simpa [fI] using hck 0 (by omega)
      have hki := HK0.out _ (List.getElem_mem hlt)
      generalize ks[i] = k at ck hki
      clear hck
      have e8 : decide ((0 : Int) < (i : Int)) = false := by simp; omega
      go_wp2_with fail
      refine (within_yes _ _ _ _ (by omega) (by omega)).mono ?_
      rintro e w' ⟨rfl, rfl⟩
      go_wp2_with fail
      go_round
      case rel => exact ⟨i + 1, by omega, by go_num⟩
      case measure => simp [intOf]; omega
    · go_wp2_with fail
      refine wp_loop_rounds 1 ?_
      rw [rounds_succ]
      go_wp2_with fail
      refine (stable_nil_Cell none 0 _ W1).mono ?_
      rintro e W2 ⟨rfl, rfl⟩
      go_wp2_with fail
      refine wp_loop_rounds 1 ?_
      rw [rounds_succ]
      go_wp2_with fail
      refine (containsFunc_Cell H fC 65 [] (fun d => !fullB d) ([] : List CellD) (fun W d hd hW => foldFull_any d W) (fun _ _ => by kernel_rfl) none 0 W1 hin1.out Rw.nil (by simp)).mono ?_
      rintro e W3 ⟨rfl, hb3⟩
      rw [show anyF (fun d : CellD => !fullB d) [] = false from rfl]
      have HB3 := Lib.hid hb3
      clear hb3
      go_wp2_with fail
      go_ret2
      exact Or.inr ⟨_, H, [], rfl, CellsOK_nil, Frz.Le.refl _, hin1.out.below HB3.out, (by intro d hd; cases hd), rfl, Orow.nil _ _ _ _ _, (by intro d hd; cases hd), (by intro k _ d hd; cases hd), HB1.out.trans (HB3.out.mono HB1.out.size), (by intro g hg; cases hg)⟩

theorem fold_all (H : Frz) (A Ak : Option Addr) (cap capk : Nat) (ds : List CellD) (ks : List Nat) (w : World) (hH : H.In w) (hR : Rw H A 3 fC ds) (hS : CellsR H ds) (hl : ds.length < 20) (hK : Rw H Ak 1 fI ks) (hks : ks.length ≤ 1) (hk0 : ∀ k ∈ ks, k ≤ 5) :
    Calls Try.prog 24 #[.slice A ds.length cap, .slice Ak ks.length capk] w (FoldPost H ks ds w) := by
  by_cases hne : ds = []
  · subst hne
    exact fold_nil H A Ak cap capk ks w hH hK hks hk0
  · exact fold_any H A Ak cap capk ds ks w hH hR hS hl hK hks (fun k hk => by have := hk0 k hk; omega) hne

def sameB (a b : CellD) : Bool := eqSs a.keys b.keys && (decide (a.many = b.many) && decide (a.cents = b.cents))
set_option maxHeartbeats 1000000 in
theorem same1_any (H : Frz) (a b : CellD) (W : World) (hH : H.In W) (ha : Ss H a.kv a.keys) (hb : Ss H b.kv b.keys) :
    Calls Try.prog 68 #[.agg #[a.kv, .int .i64 a.many, .int .i64 a.cents], .agg #[b.kv, .int .i64 b.many, .int .i64 b.cents]] W fun e W' => e = .returned (.bool (sameB a b)) ∧ Below W.heap.size W W' := by
  have HC := Lib.hid (fun W' (hW' : H.In W') => equalSs_any H a.kv b.kv a.keys b.keys W' hW' ha hb)
  have HH := Lib.hid hH
  have hv : Hid (sameB a b = (eqSs a.keys b.keys && (decide (a.many = b.many) && decide (a.cents = b.cents)))) := rfl
  generalize sameB a b = r at hv
  generalize eqSs a.keys b.keys = z at HC hv
  obtain ⟨u, ku, m1, c1⟩ := a
  obtain ⟨v, kv, m2, c2⟩ := b
  simp only at HC hv ⊢
  have hbw : Hid (Below W.heap.size W ((W.alloc (.cells #[u, .int .i64 m1, .int .i64 c1] 54)).alloc (.cells #[v, .int .i64 m2, .int .i64 c2] 54))) := ((Below.refl _ _).alloc (Nat.le_refl _) _).alloc (by simp) _
  clear hH ha hb
  go_enter Try.func68, Try.ntmps68
  go_wp2_with fail
  refine (HC.out _ ((HH.out.alloc _).alloc _)).mono ?_
  rintro e w' ⟨rfl, q, rfl⟩
  cases z with
  | false =>
    go_wp2_with fail
    go_ret
    exact ⟨ret_bool' (hv.out.trans (Bool.false_and _)).symm, below_drewN hbw.out _⟩
  | true =>
    by_cases hm : m1 = m2
    · subst hm
      by_cases hcc : c1 = c2
      · subst hcc
        go_wp2_with fail
        go_ret
        exact ⟨ret_bool' (by rw [hv.out]; simp), below_drewN hbw.out _⟩
      · have h2 : (c1 == c2) = false := by simpa using hcc
        have HCC := Lib.hid hcc
        clear hcc
        go_wp2_with fail
        go_ret
        exact ⟨ret_bool' (by rw [hv.out]; simp [HCC.out]), below_drewN hbw.out _⟩
    · have h2 : (m1 == m2) = false := by simpa using hm
      have HM := Lib.hid hm
      clear hm
      go_wp2_with fail
      go_ret
      exact ⟨ret_bool' (by rw [hv.out]; simp [HM.out]), below_drewN hbw.out _⟩

set_option maxHeartbeats 400000 in
theorem sameCells_any (H : Frz) (A A' : Option Addr) (cap cap' : Nat) (xs ys : List CellD) (w : World) (hH : H.In w) (hR : Rw H A 3 fC xs) (hR' : Rw H A' 3 fC ys) (hS : CellsR H xs) (hS' : CellsR H ys) (hl : xs.length ≤ 1000000) (hl' : ys.length ≤ 1000000) :
    Calls Try.prog 25 #[.slice A xs.length cap, .slice A' ys.length cap'] w fun e w' => e = .returned (.bool (allEq sameB xs ys)) ∧ Below w.heap.size w w' := by
  have HC := Lib.hid (equalFunc_Cell H fC 68 [] sameB xs ys (fC_one' hS) (fC_one' hS') (fun W a b ha hb hW => same1_any H a b W hW (hS a ha) (hS' b hb)) (fun _ _ _ => by kernel_rfl) A A' cap cap' w hH hR hR' hl hl')
  clear hH hR hR' hS hS'
  go_enter Try.func25, Try.ntmps25
  go_wp2_with fail
  refine HC.out.mono ?_
  rintro e w' ⟨rfl, hb⟩
  generalize hq : allEq sameB xs ys = q
  have HQ := Lib.hid hq
  clear hq
  have HB := Lib.hid hb
  clear hb
  go_wp2_with fail
  go_ret
  exact ⟨ret_bool' HQ.out.symm, HB.out⟩
theorem allEq_data {xs ys : List CellD} (h : xs.map CellD.data = ys.map CellD.data) : allEq sameB xs ys = true := by
  induction xs generalizing ys with
  | nil => cases ys <;> simp_all [allEq]
  | cons a xs ih =>
    cases ys with
    | nil => simp at h
    | cons b ys =>
      simp only [List.map_cons, List.cons.injEq] at h
      rw [allEq, ih h.2]
      have h1 := h.1
      simp only [CellD.data, Prod.mk.injEq] at h1
      simp [sameB, eqSs, h1.1, h1.2.1, h1.2.2]
end Go.Proofs.Ytadfoaopamlnpaa
