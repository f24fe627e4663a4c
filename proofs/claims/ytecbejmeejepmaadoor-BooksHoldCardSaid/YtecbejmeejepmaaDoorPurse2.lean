/- Purses: the budget of a key, what is left, all holds. -/
import Derived.Test.YtecbejmeejepmaaDoorPurse
import Derived.Handy
namespace Go.Proofs.YtecbejmeejepmaaDoor
set_option linter.unusedVariables false
open Go.RowKit

theorem World.size_alloc' (w : World) (o : Obj) : (w.alloc o).heap.size = w.heap.size + 1 := by
  have := (World.alloc_eq w o)
  simp
theorem frzF {H : Frz} {w : World} (h : H.In w) {g : Nat} {cs : Array Value} {T : TypeId} (e : H g = some (.cells cs T (0, 0))) (j : Nat) : w.frozen? ⟨g, j, none⟩ = false := by
  have := h _ _ e
  simp [World.frozen?, this]
set_option maxHeartbeats 1000000 in
theorem budgetOf1_any (H : Frz) (b : Nat) (key : ByteArray) (x : BudgetD) (T : TypeId) (hb : H b = some (.cells #[.string key] T (0, 0))) (w : World) (hH : H.In w) :
    Calls Tryd.prog 72 #[.agg #[fB x 0, fB x 1, fB x 2, fB x 3, fB x 4], .pointer (some ⟨b, 0, none⟩)] w fun e w' => e = .returned (.bool (sameKey key x)) ∧ Below w.heap.size w w' := by
  have x0 : (w.alloc (.cells #[.string x.key, .int .i64 x.cents, .int .i64 x.first, .int .i64 x.last, .bool x.pace] 59)).cell? ⟨b, 0, none⟩ = some (.string key) := by
    have := (hH.alloc (.cells #[.string x.key, .int .i64 x.cents, .int .i64 x.first, .int .i64 x.last, .bool x.pace] 59)) _ _ hb
    simp [World.cell?, this]
  have hlt : b < w.heap.size := by
    have := hH _ _ hb
    exact (Array.getElem?_eq_some_iff.1 this).1
  have HV : Hid (sameKey key x = (x.key.toList == key.toList)) := rfl
  generalize sameKey key x = r at HV
  clear hH hb
  show Calls Tryd.prog 72 #[.agg #[.string x.key, .int .i64 x.cents, .int .i64 x.first, .int .i64 x.last, .bool x.pace], .pointer (some ⟨b, 0, none⟩)] w _
  generalize hq : (x.key.toList == key.toList) = q at HV
  go_enter Tryd.func72, Tryd.ntmps72
  go_wp2_with fail
  go_ret
  exact ⟨ret_bool' HV.out.symm, (Below.refl _ _).alloc (Nat.le_refl _) _⟩
/-- What budgetOf answers. -/
def BOf (ds : List BudgetD) (key : ByteArray) (e : Ending) : Prop :=
  ((∀ d ∈ ds, sameKey key d = false) ∧ e = .returned (.tuple #[.agg #[.string ⟨#[]⟩, .int .i64 0, .int .i64 0, .int .i64 0, .bool false], .bool false])) ∨
  ∃ d ∈ ds, sameKey key d = true ∧ e = .returned (.tuple #[.agg #[.string d.key, .int .i64 d.cents, .int .i64 d.first, .int .i64 d.last, .bool d.pace], .bool true])
set_option maxHeartbeats 4000000 in
theorem budgetOf_any (H : Frz) (g : Nat) (ds : List BudgetD) (hs : List HoldD) (now : Int) (hP : PF H g ds hs now) (key : ByteArray) (w : World) (hH : H.In w) :
    Calls Tryd.prog 51 #[.pointer (some ⟨g, 0, none⟩), .string key] w fun e w' => BOf ds key e ∧ Below w.heap.size w w' := by
  obtain ⟨A, cap, Ah, caph, hg, hA, hAh, l1, l2, l3, l4⟩ := hP
  obtain ⟨H2, hl2, hbx, hin2⟩ := hH.put (.cells #[.string key] 9)
  obtain ⟨H3, hl3, hbx3, hin3⟩ := hin2.put (.cells #[.string ⟨#[]⟩, .int .i64 0, .int .i64 0, .int .i64 0, .bool false] 59)
  obtain ⟨x0, x1, x2⟩ := frz3 hin3 (hl3 _ _ (hl2 _ _ hg))
  have hb2 : Below w.heap.size w ((w.alloc (.cells #[.string key] 9)).alloc (.cells #[.string ⟨#[]⟩, .int .i64 0, .int .i64 0, .int .i64 0, .bool false] 59)) := by
    have h1 := (Below.refl w.heap.size w).alloc (Nat.le_refl _) (.cells #[.string key] 9)
    exact h1.alloc h1.size _
  have HR := Lib.hid hA
  have HH := Lib.hid hH
  have HG := Lib.hid hg
  clear hg hA hAh hH
  go_enter Tryd.func51, Tryd.ntmps51
  have H71 := Lib.hid (fun W (hW : H3.In W) => indexFunc_Budget H3 fB 72 [.pointer (some ⟨w.heap.size, 0, none⟩)] (sameKey key) ds (fun W' x _ hW' => budgetOf1_any H3 w.heap.size key x _ (hl3 _ _ hbx) W' hW') (fun _ _ => by kernel_rfl) A cap W hW ((HR.out.le hl2).le hl3) l3)
  have HB2 := Lib.hid hb2
  have HIN3 := Lib.hid hin3
  have hs1 : (w.alloc (.cells #[.string key] 9)).heap.size = w.heap.size + 1 := World.size_alloc' _ _
  rw [hs1] at hbx3
  have HBX3 := Lib.hid hbx3
  have HR3 := Lib.hid ((HR.out.le hl2).le hl3)
  have HG3 := Lib.hid (hl3 _ _ (hl2 _ _ HG.out))
  have hglt : g < w.heap.size := (Array.getElem?_eq_some_iff.1 (HH.out _ _ HG.out)).1
  clear hl2 hbx hin2 hl3 hbx3 hin3 hb2 hs1
  go_wp2_with fail
  clear x0 x1 x2
  generalize (w.alloc _).alloc _ = W1 at HB2 HIN3
  refine (H71.out W1 HIN3.out).mono ?_
  rintro e W2 ⟨rfl, hbW2⟩
  have HB3 := Lib.hid (HB2.out.trans (hbW2.mono HB2.out.size))
  have HIN4 := Lib.hid (HIN3.out.below hbW2)
  clear hbW2 HIN3 HB2 H71
  obtain ⟨x0, x1, x2⟩ := frz3 HIN4.out HG3.out
  obtain ⟨z0, z1, z2, z3, z4⟩ := frz5 HIN4.out HBX3.out
  have f0 := frzF HIN4.out HBX3.out 0
  have f1 := frzF HIN4.out HBX3.out 1
  have f2 := frzF HIN4.out HBX3.out 2
  have f3 := frzF HIN4.out HBX3.out 3
  have f4 := frzF HIN4.out HBX3.out 4
  rcases idxF_cases (sameKey key) ds with ⟨hq, hno⟩ | ⟨i, hi, hq, hyes⟩
  · have hv := Lib.hid hno
    rw [hq]
    clear hno hq
    go_wp2_with fail
    try simp only [Exit.inBlock, Exit.then]
    refine bodyPost_ret (by simp [results, Tryd.results51, go_sem, z0, z1, z2, z3, z4]; try rfl) rfl ?_
    refine ⟨Or.inl ⟨hv.out, ?_⟩, ?_⟩
    · rfl
    · have hq : w.heap.size ≤ w.heap.size + 1 := by omega
      exact ((((HB3.out.setCell hq _).setCell hq _).setCell hq _).setCell hq _).setCell hq _
  · obtain ⟨b, off, hA, hbl, hc⟩ := HR3.out.at_ HIN4.out hi (by omega)
    subst hA
    have c0 : W2.cell? ⟨b, off + i * 5, none⟩ = some (.string ds[i].key) := hc 0 (by omega)
    have c1 : W2.cell? ⟨b, off + i * 5 + 1, none⟩ = some (.int .i64 ds[i].cents) := hc 1 (by omega)
    have c2 : W2.cell? ⟨b, off + i * 5 + 2, none⟩ = some (.int .i64 ds[i].first) := hc 2 (by omega)
    have c3 : W2.cell? ⟨b, off + i * 5 + 3, none⟩ = some (.int .i64 ds[i].last) := hc 3 (by omega)
    have c4 : W2.cell? ⟨b, off + i * 5 + 4, none⟩ = some (.bool ds[i].pace) := hc 4 (by omega)
    have hv := Lib.hid hyes
    have hm := Lib.hid (List.getElem_mem hi)
    generalize ds[i] = d at c0 c1 c2 c3 c4 hv hm
    rw [hq]
    clear hyes hq hc
    go_wp2_with fail
    try simp only [Exit.inBlock, Exit.then]
    refine bodyPost_ret (by simp [results, Tryd.results51, go_sem, z0, z1, z2, z3, z4]; try rfl) rfl ?_
    refine ⟨Or.inr ⟨d, hm.out, hv.out, ?_⟩, ?_⟩
    · rfl
    · have hq : w.heap.size ≤ w.heap.size + 1 := by omega
      exact ((((HB3.out.setCell hq _).setCell hq _).setCell hq _).setCell hq _).setCell hq _
end Go.Proofs.YtecbejmeejepmaaDoor
