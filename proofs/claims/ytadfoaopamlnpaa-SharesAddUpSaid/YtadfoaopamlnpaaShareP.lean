/- Plain facts on dividing an amount by weights: no program in sight. -/
namespace Hb

/-- What each weight gets at least. -/
def parts (c s : Nat) (ws : List Nat) : List Nat := ws.map fun z => c * z / s

theorem parts_length (c s : Nat) (ws : List Nat) : (parts c s ws).length = ws.length := by simp [parts]

theorem parts_le (c s : Nat) (ws : List Nat) : (parts c s ws).sum * s ≤ c * ws.sum := by
  induction ws with
  | nil => simp [parts]
  | cons z ws ih =>
    simp only [parts, List.map_cons, List.sum_cons] at ih ⊢
    rw [Nat.add_mul, Nat.mul_add]
    have := Nat.div_mul_le_self (c * z) s
    omega
theorem parts_gt (c s : Nat) (hs : 0 < s) (ws : List Nat) : c * ws.sum ≤ ((parts c s ws).sum + ws.length) * s := by
  induction ws with
  | nil => simp [parts]
  | cons z ws ih =>
    simp only [parts, List.map_cons, List.sum_cons, List.length_cons] at ih ⊢
    rw [Nat.mul_add]
    have h1 := Nat.div_add_mod' (c * z) s
    have h2 := Nat.mod_lt (c * z) hs
    have h3 : c * z ≤ (c * z / s + 1) * s := by rw [Nat.succ_mul]; omega
    have e : (c * z / s + (List.map (fun z => c * z / s) ws).sum + (ws.length + 1)) * s = (c * z / s + 1) * s + ((List.map (fun z => c * z / s) ws).sum + ws.length) * s := by
      rw [← Nat.add_mul]; congr 1; omega
    rw [e]
    omega
theorem parts_sum (c : Nat) (ws : List Nat) (hs : 0 < ws.sum) : (parts c ws.sum ws).sum ≤ c ∧ c ≤ (parts c ws.sum ws).sum + ws.length :=
  ⟨Nat.le_of_mul_le_mul_right (parts_le c ws.sum ws) hs, Nat.le_of_mul_le_mul_right (parts_gt c ws.sum hs ws) hs⟩
theorem parts_each {c s z : Nat} (hz : z ≤ s) : c * z / s ≤ c := by
  apply Nat.div_le_of_le_mul
  rw [Nat.mul_comm s c]
  exact Nat.mul_le_mul_left _ hz
theorem mem_le_sum {ws : List Nat} {z : Nat} (h : z ∈ ws) : z ≤ ws.sum := by
  induction ws with
  | nil => cases h
  | cons a ws ih =>
    rw [List.sum_cons]
    rcases List.mem_cons.1 h with rfl | h
    · omega
    · have := ih h; omega
theorem sum_le {ws : List Nat} {b : Nat} (h : ∀ z ∈ ws, z ≤ b) : ws.sum ≤ ws.length * b := by
  induction ws with
  | nil => simp
  | cons a ws ih =>
    have h1 := ih fun z hz => h z (List.mem_cons_of_mem _ hz)
    have h2 := h a List.mem_cons_self
    rw [List.sum_cons, List.length_cons, Nat.succ_mul]
    omega
theorem sum_set {ws : List Nat} {i : Nat} (h : i < ws.length) : (ws.set i (ws[i] + 1)).sum = ws.sum + 1 := by
  induction ws generalizing i with
  | nil => simp at h
  | cons a ws ih =>
    cases i with
    | zero => simp; omega
    | succ i =>
      simp only [List.set_cons_succ, List.getElem_cons_succ, List.sum_cons]
      rw [ih (by simpa using h)]
      omega
theorem sum_take_succ {ws : List Nat} {k : Nat} (h : k < ws.length) : (ws.take (k + 1)).sum = (ws.take k).sum + ws[k] := by
  rw [List.take_succ_eq_append_getElem h, List.sum_append]; simp
theorem sum_take_le (ws : List Nat) (k : Nat) : (ws.take k).sum ≤ ws.sum := by
  have : (ws.take k).sum + (ws.drop k).sum = ws.sum := by rw [← List.sum_append, List.take_append_drop]
  omega
theorem sum_cast (ws : List Nat) : (ws.map fun z : Nat => (z : Int)).sum = (ws.sum : Int) := by
  induction ws with
  | nil => rfl
  | cons a ws ih => simp [ih]
end Hb
