/- Rows of the call's own: their block, an element changed in one cell. -/
import Derived.Test.YtecbejmeejepmaaIsort
namespace Go.Proofs.Ytecbejmeejepmaa
set_option linter.unusedVariables false
open Go.RowKit
section
variable {D : Type} {w : World} {g T k B : Nat} {f : D → Nat → Value} {ds : List D} {rest : List Value} {v : Value}
theorem cellsOf_set (i j : Nat) (hi : i < ds.length) (hj : j < k) {d' : D} {x : Value} (hx : f d' j = x) (ho : ∀ m, m < k → m ≠ j → f d' m = f ds[i] m) : (cellsOf k f ds).set (i * k + j) x = cellsOf k f (ds.set i d') := by
  have e1 : ds.set i d' = ds.take i ++ d' :: ds.drop (i + 1) := List.set_eq_take_append_cons_drop .. |>.trans (by rw [if_pos hi])
  have l1 : (cellsOf k f (ds.take i)).length = i * k := by rw [cellsOf_len, List.length_take]; congr 1; omega
  have e3 : cellsOf k f ds = cellsOf k f (ds.take i) ++ ((List.range k).map (f ds[i]) ++ cellsOf k f (ds.drop (i + 1))) := by
    have h3 : cellsOf k f ds = cellsOf k f (ds.take i ++ ds.drop i) := by rw [List.take_append_drop]
    rw [h3, cellsOf_split]
    congr 1
    rw [List.drop_eq_getElem_cons hi]
    rfl
  have e4 : cellsOf k f (ds.take i ++ d' :: ds.drop (i + 1)) = cellsOf k f (ds.take i) ++ ((List.range k).map (f d') ++ cellsOf k f (ds.drop (i + 1))) := by
    rw [cellsOf_split]
    rfl
  rw [e1, e4, e3, List.set_append_right _ _ (by rw [l1]; omega), l1, show i * k + j - i * k = j from by omega, List.set_append_left _ _ (by simpa using hj)]
  congr 2
  apply List.ext_getElem
  · simp
  · intro n h1 h2
    simp at h1 h2
    by_cases e : n = j
    · subst e; simp [hx]
    · rw [List.getElem_set_ne (by omega)]
      simp
      exact (ho n h1 e).symm
theorem KBlk.upd (h : KBlk w g T k f ds rest) (i j : Nat) (hi : i < ds.length) (hj : j < k) {d' : D} {x : Value} (hx : f d' j = x) (ho : ∀ m, m < k → m ≠ j → f d' m = f ds[i] m) : KBlk (w.setCell ⟨g, i * k + j, none⟩ x) g T k f (ds.set i d') rest := by
  unfold KBlk at h ⊢
  have hlt := (List.getElem?_eq_some_iff.1 (cellsOf_get k f ds i j hi hj)).1
  simp only [World.setCell, Array.getElem?_modify, h]
  simp [List.set_append_left _ _ hlt, cellsOf_set i j hi hj hx ho]
theorem Orow.form (h : Orow w B T k f v ds) (hne : ds ≠ []) : ∃ g cap rest, v = .slice (some ⟨g, 0, none⟩) ds.length cap ∧ ds.length ≤ cap ∧ B ≤ g ∧ g < w.heap.size ∧ cap ≤ maxLen ∧ KBlk w g T k f ds rest ∧ rest.length = cap * k - ds.length * k := by
  rcases h.2 with ⟨_, hl⟩ | ⟨g, cap, cur, hv, hB, hh, hle, hm, hs, ht⟩
  · exact absurd (List.eq_nil_of_length_eq_zero hl) hne
  · refine ⟨g, cap, cur.toList.drop (ds.length * k), hv, hle, hB, lt_of_heap hh, hm, ?_, by simp [hs]⟩
    unfold KBlk
    rw [← ht, List.take_append_drop]
    exact hh
theorem Orow.of_blk {cap : Nat} (h : KBlk w g T k f ds rest) (hB : B ≤ g) (hm : cap ≤ maxLen) (hle : ds.length ≤ cap) (hr : rest.length = cap * k - ds.length * k) : Orow w B T k f (.slice (some ⟨g, 0, none⟩) ds.length cap) ds := by
  refine ⟨by rw [cellsOf_len], Or.inr ⟨g, cap, _, rfl, hB, h, hle, hm, ?_, ?_⟩⟩
  · have := Nat.mul_le_mul_right k hle
    simp [cellsOf_len, hr]; omega
  · simp
    rw [List.take_left' (by rw [cellsOf_len])]
end
end Go.Proofs.Ytecbejmeejepmaa
