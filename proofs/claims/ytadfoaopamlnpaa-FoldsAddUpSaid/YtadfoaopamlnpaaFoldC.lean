/- The closures of measure.Fold. -/
import Derived.Test.YtadfoaopamlnpaaFoldP
import Derived.Test.YtadfoaopamlnpaaSortCell
import Derived.Test.YtadfoaopamlnpaaIdxCell
import Derived.Test.YtadfoaopamlnpaaOrow
namespace Go.Proofs.Ytadfoaopamlnpaa
set_option linter.unusedVariables false
open Go.RowKit
theorem fC_one' {H : Frz} {ds : List CellD} (h : CellsR H ds) : ∀ d ∈ ds, ∀ m, (fC d m).oneCell' = true := by
  intro d hd m
  obtain ⟨A, cap, e, _⟩ := h d hd
  match m with
  | 0 => show d.kv.oneCell' = true; rw [e]; rfl
  | 1 => rfl
  | n + 2 => rfl
set_option maxHeartbeats 400000 in
theorem foldCmp_any (H : Frz) (a b : CellD) (W : World) (hH : H.In W) (ha : Ss H a.kv a.keys) (hb : Ss H b.kv b.keys) :
    Calls Try.prog 61 #[.agg #[a.kv, .int .i64 a.many, .int .i64 a.cents], .agg #[b.kv, .int .i64 b.many, .int .i64 b.cents]] W fun e W' => e = .returned (.int .i64 (cmpL a.keys b.keys)) ∧ Below W.heap.size W W' := by
  have HC := Lib.hid (fun W' (hW' : H.In W') => compareSs_any H a.kv b.kv a.keys b.keys W' hW' ha hb)
  have HH := Lib.hid hH
  generalize cmpL a.keys b.keys = z at HC
  obtain ⟨u, ku, m1, c1⟩ := a
  obtain ⟨v, kv, m2, c2⟩ := b
  simp only at HC ⊢
  clear hH ha hb
  go_enter Try.func61, Try.ntmps61
  go_wp2_with fail
  refine (HC.out _ ((HH.out.alloc _).alloc _)).mono ?_
  rintro e w' ⟨rfl, rfl⟩
  go_wp2_with fail
  go_ret
  exact ⟨rfl, ((Below.refl _ _).alloc (Nat.le_refl _) _).alloc (by simp) _⟩
set_option maxHeartbeats 400000 in
theorem foldFull_any (d : CellD) (W : World) :
    Calls Try.prog 65 #[.agg #[d.kv, .int .i64 d.many, .int .i64 d.cents]] W fun e W' => e = .returned (.bool (!fullB d)) ∧ Below W.heap.size W W' := by
  generalize hr : (!fullB d) = r
  have HR : Hid ((!fullI d.many d.cents) = r) := hr
  clear hr
  obtain ⟨u, ku, m1, c1⟩ := d
  simp only at HR ⊢
  go_enter Try.func65, Try.ntmps65
  go_wp2_with fail
  refine (full_any u m1 c1 _).mono ?_
  rintro e w' ⟨rfl, hb⟩
  generalize fullI m1 c1 = q at HR
  have HB := Lib.hid hb
  clear hb
  go_wp2_with fail
  go_ret
  exact ⟨ret_bool' HR.out, ((Below.refl _ W).alloc (Nat.le_refl _) _).trans (HB.out.mono (by simp))⟩
end Go.Proofs.Ytadfoaopamlnpaa
