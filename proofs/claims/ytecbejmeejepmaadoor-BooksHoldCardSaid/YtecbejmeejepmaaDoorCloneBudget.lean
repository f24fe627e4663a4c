/- Clone at elements of 5 cells. -/
import Derived.Test.YtecbejmeejepmaaDoorOrow
import Derived.Test.YtecbejmeejepmaaDoorIdx
import Derived.StillTailTactics
import Derived.Deep.Cut
namespace Go.Proofs.YtecbejmeejepmaaDoor
set_option linter.unusedVariables false
open Go.RowKit

theorem infoBudget : (Tryd.prog.info? 59).map (fun i => (i.zero, i.size, i.bytes)) = some (some (.agg #[.string ⟨#[]⟩, .int .i64 0, .int .i64 0, .int .i64 0, .bool false]), 5, 48) := by kernel_rfl
section
variable {D : Type}
set_option maxHeartbeats 1000000 in
set_option maxRecDepth 100000 in
theorem clone_Budget (H : Frz) (f : D → Nat → Value) (ds : List D) (hf : ∀ d ∈ ds, ∀ m, (f d m).oneCell' = true) (A : Option Addr) (cap : Nat) (w : World) (hH : H.In w) (hR : Rw H A 5 f ds) (hl : ds.length ≤ 1000000) :
    Calls Tryd.prog 45 #[.slice A ds.length cap] w fun e w' => (∃ v, e = .returned v ∧ Orow w' w.heap.size 59 5 f v ds) ∧ Below w.heap.size w w' := by
  obtain ⟨i0, hi0, hz0, hz1, hz2⟩ := info_parts infoBudget
  cases A with
  | none =>
    have hd : ds = [] := by
      cases ds with
      | nil => rfl
      | cons d ds => obtain ⟨b, off, e, _⟩ := hR 0 (by simp); cases e
    subst hd
    have hn := fun wx => Lib.run_eql_slice_nil (P := Tryd.prog) wx 51 59 none 0 cap 0 0 Tryd.underlying51
    clear hR hH hf
    go_enter Tryd.func45, Tryd.ntmps45
    go_wp2_with fail
    go_ret
    exact ⟨⟨_, rfl, Orow.nil _ _ _ _ _⟩, Below.refl _ _⟩
  | some ad =>
    have hnews : Hid (∀ j u, (cellsOf 5 f ds)[j]? = some u → w.cell? (ad.add j) = some u) := by
      intro j u hu
      have hj : j < ds.length * 5 := by have := (List.getElem?_eq_some_iff.1 hu).1; rwa [cellsOf_len] at this
      obtain ⟨b, off, e, _, hc⟩ := hR.at_ hH (i := j / 5) (by omega) (by omega)
      injection e with e
      subst e
      have h2 := hc (j % 5) (Nat.mod_lt _ (by omega))
      have h3 := cellsOf_get 5 f ds (j / 5) (j % 5) (by omega) (Nat.mod_lt _ (by omega))
      have e1 : j / 5 * 5 + j % 5 = j := by omega
      rw [e1, hu] at h3
      rw [Addr.add_lit, show off + j = off + j / 5 * 5 + j % 5 from by omega, h2]
      exact h3.symm
    have hone : Hid (∀ u ∈ cellsOf 5 f ds, u.oneCell' = true) := by
      intro u hu
      simp only [cellsOf, List.mem_flatMap, List.mem_map] at hu
      obtain ⟨d, hd, m, _, rfl⟩ := hu
      exact hf d hd m
    have hlen := Lib.hid (cellsOf_len 5 f ds)
    have hn := fun wx => Lib.run_eql_slice_nil (P := Tryd.prog) wx 51 59 (some ad) ds.length cap 0 0 Tryd.underlying51
    have hown : Hid ((w.alloc (.cells #[] 59)).ownsRow w.heap.size 59 5 (.slice (some ⟨w.heap.size, 0, none⟩) 0 0) 0 []) := ⟨rfl, Or.inr ⟨w.heap.size, 0, #[], rfl, Nat.le_refl _, heap_at rfl, Nat.le_refl _, Nat.zero_le _, rfl, rfl⟩⟩
    have hnews2 : Hid (∀ j u, (cellsOf 5 f ds)[j]? = some u → (w.alloc (.cells #[] 59)).cell? (ad.add j) = some u) := fun j u hu => by
      have := hnews.out j u hu
      exact (World.cell?_alloc_lt w _ _ (World.block_lt_of_cell? w _ this)).trans this
    clear hR hH hf hnews
    go_enter Tryd.func45, Tryd.ntmps45
    go_wp2_with (at_builtin; refine wpList_append_own _ rfl _ _ 51 rfl w.heap.size 59 i0 (.agg #[.string ⟨#[]⟩, .int .i64 0, .int .i64 0, .int .i64 0, .bool false]) 5 48 Tryd.underlying51 hi0 hz0 hz1 hz2 rfl (by decide) (.slice (some ⟨w.heap.size, 0, none⟩) 0 0) 0 [] rfl hown.out ad ds.length cap (cellsOf 5 f ds) rfl hlen.out hnews2.out hone.out (by simp only [maxLen]; omega) (by omega) (by simp) ?_; intro v1 w2 o1 g1 b1)
    have O1 : Hid (Orow w2 w.heap.size 59 5 f v1 ds) := by
      show World.ownsRow _ _ _ _ _ _ _
      simpa using o1
    have B1 : Hid (Below w.heap.size w w2) := ((Below.refl _ w).alloc (Nat.le_refl _) _).grown g1 (by simp) (fun q hq => by simp [Value.ownBlock] at hq; omega)
    clear o1 g1 b1
    go_wp2_with fail
    go_ret
    exact ⟨⟨_, rfl, O1.out⟩, B1.out⟩
end
end Go.Proofs.YtecbejmeejepmaaDoor
