/- Folding what was folded: plain. -/
import Derived.Test.YtadfoaopamlnpaaFoldN
namespace Go.Proofs.Ytadfoaopamlnpaa
set_option linter.unusedVariables false
open Go.RowKit
theorem mStep_len (xs : List K3) (c : K3) : (mStep xs c).length ≤ xs.length + 1 := by
  rcases nil_or_snoc xs with rfl | ⟨ys, l, rfl⟩
  · simp [mStep_nil]
  · by_cases h : l.1 = c.1
    · rw [mStep_same h]; simp
    · rw [mStep_other h]; simp
theorem kmerge_len (cs : List K3) : (kmerge cs).length ≤ cs.length := by
  have : ∀ xs : List K3, (cs.foldl mStep xs).length ≤ xs.length + cs.length := by
    induction cs with
    | nil => intro xs; simp
    | cons c cs ih =>
      intro xs
      have h1 := ih (mStep xs c)
      have h2 := mStep_len xs c
      simp only [List.foldl_cons, List.length_cons]
      omega
  have h := this []
  simpa [kmerge] using h
theorem kfold_len (cs : List K3) : (kfold cs).length ≤ cs.length := by
  unfold kfold
  exact Nat.le_trans (kmerge_len _) (by rw [isort_length]; exact Nat.le_refl _)
theorem tot_proj (ks : List Nat) (ds : List CellD) : tot1 (ds.map (proj ks)) = (ds.map CellD.many).sum ∧ tot2 (ds.map (proj ks)) = (ds.map CellD.cents).sum := by
  simp only [tot1, tot2, List.map_map]
  exact ⟨rfl, rfl⟩
theorem tot_data (ds : List CellD) : tot1 (ds.map CellD.data) = (ds.map CellD.many).sum ∧ tot2 (ds.map CellD.data) = (ds.map CellD.cents).sum := by
  simp only [tot1, tot2, List.map_map]
  exact ⟨rfl, rfl⟩
theorem fold_none {ds : List CellD} (hne : ds ≠ []) : kfold (ds.map (proj [])) = [([], (ds.map CellD.many).sum, (ds.map CellD.cents).sum)] := by
  rw [kfold_one [] (fun c hc => by obtain ⟨d, _, rfl⟩ := List.mem_map.1 hc; rfl) (by simpa using hne), (tot_proj [] ds).1, (tot_proj [] ds).2]
/-- What was folded to one dimension is right. -/
theorem fold_right {ds xs : List CellD} (hOK : CellsOK ds) (hk : ∀ d ∈ ds, 0 < d.keys.length) (hx : xs.map CellD.data = kfold (ds.map (proj [0]))) (hl : ds.length < 20) (hf : ∀ d ∈ xs, fullB d = true) : CellsOK xs ∧ xs.length < 20 := by
  have hlen : xs.length ≤ ds.length := by
    have h1 := congrArg List.length hx
    have h2 := kfold_len (ds.map (proj [0]))
    simp at h1 h2
    omega
  refine ⟨⟨by omega, fun i hi => ?_⟩, by omega⟩
  have hkey : ∀ d ∈ xs, ∃ k : ByteArray, d.keys = [k] ∧ isKey k = true := fun d hd => by
    obtain ⟨y, hy, e⟩ := kfold_mem (y := d.data) (by rw [← hx]; exact List.mem_map.2 ⟨d, hd, rfl⟩)
    obtain ⟨c, hc, rfl⟩ := List.mem_map.1 hy
    have hc0 := hk c hc
    refine ⟨c.keys[0], ?_, ?_⟩
    · have : d.keys = kk [0] c.keys := e
      rw [this]
      simp [kk, List.getD_eq_getElem?_getD, List.getElem?_eq_getElem hc0]
    · obtain ⟨j, hj, rfl⟩ := List.getElem_of_mem hc
      have h3 := (hOK.2 j hj).2.2.1
      have := List.any_eq_false.1 h3 _ (List.getElem_mem hc0)
      simpa using this
  have hrise : KRise (xs.map CellD.data) := by rw [hx]; exact kfold_rise _
  obtain ⟨k, e, hk1⟩ := hkey xs[i] (List.getElem_mem hi)
  obtain ⟨k', e', _⟩ := hkey (xs[0]'(by omega)) (List.getElem_mem _)
  refine ⟨by rw [e, e']; rfl, by rw [e]; simp, by rw [e]; simp [anyF, hk1], fun h0 => ?_, hf _ (List.getElem_mem hi)⟩
  have h1 := List.pairwise_iff_getElem.1 hrise (i - 1) i (by simp; omega) (by simpa using hi) (by omega)
  simp only [List.getElem_map, CellD.data] at h1
  rw [cmpL_swap]
  omega
theorem fold_again {ds xs : List CellD} (hx : xs.map CellD.data = kfold (ds.map (proj [0]))) : kfold (xs.map (proj [])) = kfold (ds.map (proj [])) := by
  by_cases hne : ds = []
  · subst hne
    have : xs.map CellD.data = [] := by rw [hx]; rfl
    have : xs = [] := by simpa using this
    subst this
    rfl
  · have hxn : xs ≠ [] := by
      rintro rfl
      have h1 := (kfold_nil (cs := ds.map (proj [0]))).1 hx.symm
      simp at h1
      exact hne h1
    rw [fold_none hxn, fold_none hne]
    have h1 := tot_data xs
    rw [hx, (kfold_tot _).1, (kfold_tot _).2, (tot_proj [0] ds).1, (tot_proj [0] ds).2] at h1
    rw [← h1.1, ← h1.2]
end Go.Proofs.Ytadfoaopamlnpaa
