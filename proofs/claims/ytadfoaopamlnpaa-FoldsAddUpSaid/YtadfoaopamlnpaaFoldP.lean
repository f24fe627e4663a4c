/- Folding cells: plain. -/
import Derived.Test.YtadfoaopamlnpaaCells
import Derived.Test.YtadfoaopamlnpaaIsort
namespace Go.Proofs.Ytadfoaopamlnpaa
set_option linter.unusedVariables false

theorem isort_map {D E : Type} (g : D → E) {lt : D → D → Bool} {lt' : E → E → Bool} (h : ∀ a b, lt a b = lt' (g a) (g b)) (ds : List D) : (isort lt ds).map g = isort lt' (ds.map g) := by
  have hi : ∀ (x : D) (acc : List D), (insLast lt x acc).map g = insLast lt' (g x) (acc.map g) := fun x acc => by
    unfold insLast
    have e : lt x = lt' (g x) ∘ g := funext fun b => h x b
    have e2 : (acc.map g).reverse = acc.reverse.map g := List.map_reverse.symm
    rw [e2, List.takeWhile_map, List.dropWhile_map]
    simp only [List.map_append, List.map_cons, List.map_reverse, e]
  unfold isort
  have : ∀ acc : List D, (ds.foldl (fun acc x => insLast lt x acc) acc).map g = (ds.map g).foldl (fun acc x => insLast lt' x acc) (acc.map g) := by
    induction ds with
    | nil => intro acc; rfl
    | cons x ds ih => intro acc; simp only [List.foldl_cons, List.map_cons]; rw [ih, hi]
  simpa using this []

abbrev K3 : Type := List ByteArray × Int × Int
def CellD.data (d : CellD) : K3 := (d.keys, d.many, d.cents)
def klt (a b : K3) : Bool := decide (cmpL a.1 b.1 < 0)
def mStep (xs : List K3) (c : K3) : List K3 := match xs.getLast? with
  | some l => if l.1 = c.1 then xs.dropLast ++ [(l.1, l.2.1 + c.2.1, l.2.2 + c.2.2)] else xs ++ [c]
  | none => [c]
def kmerge (cs : List K3) : List K3 := cs.foldl mStep []
theorem kmerge_snoc (cs : List K3) (c : K3) : kmerge (cs ++ [c]) = mStep (kmerge cs) c := by simp [kmerge]
theorem mStep_nil (c : K3) : mStep [] c = [c] := rfl
theorem mStep_same {xs : List K3} {l c : K3} (h : l.1 = c.1) : mStep (xs ++ [l]) c = xs ++ [(l.1, l.2.1 + c.2.1, l.2.2 + c.2.2)] := by simp [mStep, h]
theorem mStep_other {xs : List K3} {l c : K3} (h : l.1 ≠ c.1) : mStep (xs ++ [l]) c = xs ++ [l] ++ [c] := by simp [mStep, h]
def tot1 (cs : List K3) : Int := (cs.map fun c => c.2.1).sum
def tot2 (cs : List K3) : Int := (cs.map fun c => c.2.2).sum
theorem tot_step (xs : List K3) (c : K3) : tot1 (mStep xs c) = tot1 xs + c.2.1 ∧ tot2 (mStep xs c) = tot2 xs + c.2.2 := by
  rcases nil_or_snoc xs with rfl | ⟨ys, l, rfl⟩
  · simp [mStep_nil, tot1, tot2]
  · by_cases h : l.1 = c.1
    · rw [mStep_same h]; simp [tot1, tot2]; constructor <;> omega
    · rw [mStep_other h]; simp [tot1, tot2]; constructor <;> omega
theorem tot_merge (cs : List K3) : tot1 (kmerge cs) = tot1 cs ∧ tot2 (kmerge cs) = tot2 cs := by
  have : ∀ xs : List K3, tot1 (cs.foldl mStep xs) = tot1 xs + tot1 cs ∧ tot2 (cs.foldl mStep xs) = tot2 xs + tot2 cs := by
    induction cs with
    | nil => intro xs; simp [tot1, tot2]
    | cons c cs ih =>
      intro xs
      have h1 := ih (mStep xs c)
      have h2 := tot_step xs c
      simp only [List.foldl_cons]
      rw [h1.1, h1.2, h2.1, h2.2]
      simp only [tot1, tot2, List.map_cons, List.sum_cons]
      constructor <;> omega
  have h := this []
  simp only [tot1, tot2, List.map_nil, List.sum_nil] at h ⊢
  unfold kmerge
  constructor
  · have := h.1; omega
  · have := h.2; omega
theorem sum_perm {a b : List Int} (h : a.Perm b) : a.sum = b.sum := by
  induction h with
  | nil => rfl
  | cons x _ ih => simp [ih]
  | swap x y l => simp; omega
  | trans _ _ h1 h2 => rw [h1, h2]
theorem tot_sort (cs : List K3) : tot1 (isort klt cs) = tot1 cs ∧ tot2 (isort klt cs) = tot2 cs :=
  ⟨sum_perm ((isort_perm klt cs).map _), sum_perm ((isort_perm klt cs).map _)⟩
theorem mStep_ne (xs : List K3) (c : K3) : mStep xs c ≠ [] := by
  rcases nil_or_snoc xs with rfl | ⟨ys, l, rfl⟩
  · simp [mStep_nil]
  · by_cases h : l.1 = c.1
    · rw [mStep_same h]; simp
    · rw [mStep_other h]; simp
theorem kmerge_nil {cs : List K3} : kmerge cs = [] ↔ cs = [] := by
  rcases nil_or_snoc cs with rfl | ⟨ys, l, rfl⟩
  · simp [kmerge]
  · rw [kmerge_snoc]; simp [mStep_ne]
/-- What folding comes to. -/
def kfold (cs : List K3) : List K3 := kmerge (isort klt cs)
theorem kfold_nil {cs : List K3} : kfold cs = [] ↔ cs = [] := by
  unfold kfold
  rw [kmerge_nil]
  constructor
  · intro h
    have := isort_length klt cs
    rw [h] at this
    exact List.eq_nil_of_length_eq_zero this.symm
  · rintro rfl; rfl
theorem kfold_tot (cs : List K3) : tot1 (kfold cs) = tot1 cs ∧ tot2 (kfold cs) = tot2 cs := by
  unfold kfold
  rw [(tot_merge _).1, (tot_merge _).2]
  exact tot_sort cs
theorem mStep_mem {xs : List K3} {c y : K3} (h : y ∈ mStep xs c) : y.1 = c.1 ∨ ∃ x ∈ xs, y.1 = x.1 := by
  rcases nil_or_snoc xs with rfl | ⟨ys, l, rfl⟩
  · simp [mStep_nil] at h; left; rw [h]
  · by_cases e : l.1 = c.1
    · rw [mStep_same e] at h
      rcases List.mem_append.1 h with h | h
      · exact Or.inr ⟨y, by simp [h], rfl⟩
      · simp at h; left; rw [h]; exact e
    · rw [mStep_other e] at h
      rcases List.mem_append.1 h with h | h
      · exact Or.inr ⟨y, h, rfl⟩
      · simp at h; left; rw [h]
theorem kmerge_mem {cs : List K3} {y : K3} :  y ∈ kmerge cs → ∃ x ∈ cs, y.1 = x.1 := by
  have : ∀ xs : List K3, y ∈ cs.foldl mStep xs → (∃ x ∈ xs, y.1 = x.1) ∨ ∃ x ∈ cs, y.1 = x.1 := by
    induction cs with
    | nil => intro xs hx; exact Or.inl ⟨y, hx, rfl⟩
    | cons c cs ih =>
      intro xs hx
      rcases ih (mStep xs c) hx with ⟨x, hx, e⟩ | ⟨x, hx, e⟩
      · rcases mStep_mem hx with e2 | ⟨z, hz, e2⟩
        · exact Or.inr ⟨c, List.mem_cons_self, e.trans e2⟩
        · exact Or.inl ⟨z, hz, e.trans e2⟩
      · exact Or.inr ⟨x, List.mem_cons_of_mem _ hx, e⟩
  intro h
  rcases this [] h with ⟨x, hx, _⟩ | h
  · cases hx
  · exact h
/-- Sorted by their keys. -/
def KSorted (cs : List K3) : Prop := cs.Pairwise fun a b => klt b a = false
/-- Keys that rise. -/
def KRise (cs : List K3) : Prop := cs.Pairwise fun a b => cmpL a.1 b.1 < 0
theorem klt_asymm (a b : K3) (h : klt a b = true) : klt b a = false := by
  simp only [klt, decide_eq_true_eq, decide_eq_false_iff_not] at h ⊢
  rw [cmpL_swap]; omega
theorem klt_trans (a b c : K3) (h1 : klt b a = false) (h2 : klt c b = false) : klt c a = false := by
  simp only [klt, decide_eq_false_iff_not] at h1 h2 ⊢
  intro h3
  rcases Int.lt_or_le (cmpL a.1 b.1) 0 with h | h
  · have := cmpL_trans h3 h; exact h2 this
  · have e : cmpL b.1 a.1 = 0 := by have := cmpL_swap b.1 a.1; omega
    have := cmpL_zero e
    rw [this] at h2
    exact h2 h3
theorem isort_ksorted (cs : List K3) : KSorted (isort klt cs) := isort_sorted klt_asymm klt_trans cs
theorem kmerge_rise (n : Nat) : ∀ cs : List K3, cs.length = n → KSorted cs → KRise (kmerge cs) ∧ ∀ l, cs.getLast? = some l → ∃ zs m, kmerge cs = zs ++ [m] ∧ m.1 = l.1 := by
  induction n with
  | zero =>
    intro cs hl _
    obtain rfl := List.eq_nil_of_length_eq_zero hl
    exact ⟨List.Pairwise.nil, fun l h => by simp at h⟩
  | succ n ih =>
    intro cs hl hs
    rcases nil_or_snoc cs with rfl | ⟨ys, c, rfl⟩
    · simp at hl
    · have hs' := List.pairwise_append.1 hs
      obtain ⟨h1, h2⟩ := ih ys (by simpa using hl) hs'.1
      rw [kmerge_snoc]
      rcases nil_or_snoc ys with rfl | ⟨ys, l, rfl⟩
      · refine ⟨List.pairwise_singleton _ _, fun l h => ⟨[], c, rfl, ?_⟩⟩
        simp at h; rw [h]
      · obtain ⟨zs, m, hm, hml⟩ := h2 l (by simp)
        rw [hm] at h1 ⊢
        have hlc : klt c l = false := hs'.2.2 l (by simp) c (by simp)
        simp only [klt, decide_eq_false_iff_not] at hlc
        have h1' := List.pairwise_append.1 h1
        by_cases e : m.1 = c.1
        · rw [mStep_same e]
          refine ⟨List.pairwise_append.2 ⟨h1'.1, List.pairwise_singleton _ _, fun a ha b hb => ?_⟩, fun l' h => ⟨zs, _, rfl, ?_⟩⟩
          · simp at hb; rw [hb]; exact h1'.2.2 a ha m (by simp)
          · simp at h; rw [← h]; exact e
        · rw [mStep_other e]
          have hmc : cmpL m.1 c.1 < 0 := by
            have h3 := cmpL_swap m.1 c.1
            rw [← hml] at hlc
            rcases Int.lt_or_le (cmpL m.1 c.1) 0 with h | h
            · exact h
            · have : cmpL m.1 c.1 = 0 := by omega
              exact absurd (cmpL_zero this) e
          refine ⟨List.pairwise_append.2 ⟨h1, List.pairwise_singleton _ _, fun a ha b hb => ?_⟩, fun l' h => ⟨_, c, rfl, ?_⟩⟩
          · simp at hb; rw [hb]
            rcases List.mem_append.1 ha with ha | ha
            · exact cmpL_trans (h1'.2.2 a ha m (by simp)) hmc
            · simp at ha; rw [ha]; exact hmc
          · simp at h; rw [h]
theorem kfold_rise (cs : List K3) : KRise (kfold cs) := (kmerge_rise _ _ rfl (isort_ksorted cs)).1
theorem kfold_mem {cs : List K3} {y : K3} (h : y ∈ kfold cs) : ∃ x ∈ cs, y.1 = x.1 := by
  obtain ⟨x, hx, e⟩ := kmerge_mem h
  exact ⟨x, (isort_perm klt cs).mem_iff.1 hx, e⟩
/-- Where all have the same keys, one is left. -/
theorem kfold_one {cs : List K3} (k : List ByteArray) (h : ∀ c ∈ cs, c.1 = k) (hne : cs ≠ []) : kfold cs = [(k, tot1 cs, tot2 cs)] := by
  have ht := kfold_tot cs
  have hr := kfold_rise cs
  have hm : ∀ y ∈ kfold cs, y.1 = k := fun y hy => by
    obtain ⟨x, hx, e⟩ := kfold_mem hy
    rw [e, h x hx]
  have hn : kfold cs ≠ [] := fun e => hne (kfold_nil.1 e)
  cases e : kfold cs with
  | nil => exact absurd e hn
  | cons a l =>
    cases l with
    | cons b l =>
      rw [e] at hr hm
      have := (List.pairwise_cons.1 hr).1 b List.mem_cons_self
      rw [hm a (by simp), hm b (by simp), cmpL_self] at this
      omega
    | nil =>
      rw [e] at ht hm
      simp [tot1, tot2] at ht
      obtain ⟨a1, a2, a3⟩ := a
      have h1 := hm (a1, a2, a3) (by simp)
      simp only at h1 ht
      simp only [tot1, tot2]
      rw [h1, ← ht.1, ← ht.2]
end Go.Proofs.Ytadfoaopamlnpaa
