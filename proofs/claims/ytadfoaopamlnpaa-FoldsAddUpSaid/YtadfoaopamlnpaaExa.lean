/- Plain facts on the exact tests: no program in sight. -/
import Derived.Test.YtadfoaopamlnpaaBin
namespace Hb

/-- The sum of f over the numbers below n. -/
def S (f : Nat → Nat) : Nat → Nat
  | 0 => 0
  | n + 1 => S f n + f n

theorem S_congr {f g : Nat → Nat} {n : Nat} (h : ∀ x, x < n → f x = g x) : S f n = S g n := by
  induction n with
  | zero => rfl
  | succ n ih => rw [S, S, ih (fun x hx => h x (by omega)), h n (by omega)]

theorem S_front (f : Nat → Nat) (n : Nat) : S f (n + 1) = f 0 + S (fun x => f (x + 1)) n := by
  induction n with
  | zero => simp [S]
  | succ n ih => rw [S, ih, S]; omega

theorem S_rev (f : Nat → Nat) (n : Nat) : S (fun x => f (n - x)) (n + 1) = S f (n + 1) := by
  induction n with
  | zero => rfl
  | succ n ih =>
    rw [S_front, show S f (n + 1 + 1) = S f (n + 1) + f (n + 1) from rfl, ← ih, Nat.add_comm]
    congr 1
    exact S_congr fun x _ => by rw [show n + 1 - (x + 1) = n - x from by omega]

theorem S_more {f : Nat → Nat} {n m : Nat} (h : n ≤ m) (hz : ∀ x, n ≤ x → f x = 0) : S f m = S f n := by
  induction m with
  | zero => rw [show n = 0 from by omega]
  | succ m ih =>
    by_cases e : n = m + 1
    · rw [e]
    · rw [S, ih (by omega), hz m (by omega), Nat.add_zero]

theorem S_le {f : Nat → Nat} {b n : Nat} (h : ∀ x, x < n → f x ≤ b) : S f n ≤ n * b := by
  induction n with
  | zero => simp [S]
  | succ n ih => rw [S, Nat.succ_mul]; have := ih (fun x hx => h x (by omega)); have := h n (by omega); omega

theorem S_mono {f g : Nat → Nat} {n : Nat} (h : ∀ x, x < n → f x ≤ g x) : S f n ≤ S g n := by
  induction n with
  | zero => simp [S]
  | succ n ih => rw [S, S]; have := ih (fun x hx => h x (by omega)); have := h n (by omega); omega

theorem S_one {f : Nat → Nat} {n k : Nat} (h : k < n) : f k ≤ S f n := by
  induction n with
  | zero => omega
  | succ n ih =>
    rw [S]
    by_cases e : k = n
    · subst e; omega
    · have := ih (by omega); omega

/-- In how many ways x of the first arm are among those who gained. -/
def ways (a b c d x : Nat) : Nat := if x ≤ a + c then C (a + b) x * C (c + d) (a + c - x) else 0

/-- What counts: all that is no more than 'own'. -/
def few (own v : Nat) : Nat := if v ≤ own then v else 0

def exFew (a b c d : Nat) : Nat := S (fun x => few (ways a b c d a) (ways a b c d x)) (a + c + 1)
def exAll (a b c d : Nat) : Nat := S (ways a b c d) (a + c + 1)

theorem few_zero (o : Nat) : few o 0 = 0 := by unfold few; simp
theorem few_le (o v : Nat) : few o v ≤ v := by unfold few; split <;> omega

theorem ways_own (a b c d : Nat) : ways a b c d a = C (a + b) a * C (c + d) c := by
  unfold ways; rw [if_pos (by omega), show a + c - a = c from by omega]

theorem ways_swap {a b c d x : Nat} (h : x ≤ a + c) : ways c d a b (a + c - x) = ways a b c d x := by
  unfold ways
  rw [if_pos (by omega), if_pos h, Nat.mul_comm, show c + a - (a + c - x) = x from by omega]

theorem ways_turn {a b c d x : Nat} (h : x ≤ a + b) : ways b a d c (a + b - x) = ways a b c d x := by
  unfold ways
  rw [show b + a = a + b from by omega, show d + c = c + d from by omega, C_symm h]
  by_cases h1 : a ≤ d + x
  · rw [if_pos (by omega), show b + d - (a + b - x) = d + x - a from by omega]
    by_cases h2 : x ≤ a + c
    · rw [if_pos h2]
      congr 1
      rw [← C_symm (n := c + d) (k := d + x - a) (by omega)]
      congr 1
      omega
    · rw [if_neg h2, C_gt (n := c + d) (by omega), Nat.mul_zero]
  · rw [if_neg (by omega)]
    by_cases h2 : x ≤ a + c
    · rw [if_pos h2, C_gt (n := c + d) (by omega), Nat.mul_zero]
    · rw [if_neg h2]

theorem ways_far {a b c d x : Nat} (h : a + b < x ∨ a + c < x) : ways a b c d x = 0 := by
  unfold ways
  split
  · rw [C_gt (by omega), Nat.zero_mul]
  · rfl

theorem sum_swap (a b c d : Nat) (g : Nat → Nat) :
    S (fun x => g (ways c d a b x)) (c + a + 1) = S (fun x => g (ways a b c d x)) (a + c + 1) := by
  rw [Nat.add_comm c a, ← S_rev (fun x => g (ways c d a b x))]
  exact S_congr fun x hx => by rw [ways_swap (by omega)]

theorem sum_turn (a b c d : Nat) (g : Nat → Nat) (g0 : g 0 = 0) :
    S (fun x => g (ways b a d c x)) (b + d + 1) = S (fun x => g (ways a b c d x)) (a + c + 1) := by
  have e1 : S (fun x => g (ways b a d c x)) (b + d + 1) = S (fun x => g (ways b a d c x)) (a + b + 1) := by
    rcases Nat.le_total (b + d + 1) (a + b + 1) with h | h
    · exact (S_more h fun x hx => by simp only [ways_far (a := b) (b := a) (c := d) (d := c) (x := x) (by omega), g0]).symm
    · exact S_more h fun x hx => by simp only [ways_far (a := b) (b := a) (c := d) (d := c) (x := x) (by omega), g0]
  have e2 : S (fun x => g (ways a b c d x)) (a + c + 1) = S (fun x => g (ways a b c d x)) (a + b + 1) := by
    rcases Nat.le_total (a + c + 1) (a + b + 1) with h | h
    · exact (S_more h fun x hx => by simp only [ways_far (a := a) (b := b) (c := c) (d := d) (x := x) (by omega), g0]).symm
    · exact S_more h fun x hx => by simp only [ways_far (a := a) (b := b) (c := c) (d := d) (x := x) (by omega), g0]
  rw [e1, e2, ← S_rev (fun x => g (ways b a d c x))]
  exact S_congr fun x hx => by simp only [ways_turn (show x ≤ a + b by omega)]

theorem own_swap (a b c d : Nat) : ways c d a b c = ways a b c d a := by
  rw [ways_own, ways_own, Nat.mul_comm]

theorem own_turn (a b c d : Nat) : ways b a d c b = ways a b c d a := by
  rw [ways_own, ways_own]
  congr 1
  · rw [Nat.add_comm b a, ← C_symm (n := a + b) (k := b) (by omega)]; congr 1; omega
  · rw [Nat.add_comm d c, ← C_symm (n := c + d) (k := d) (by omega)]; congr 1; omega

theorem exAll_swap (a b c d : Nat) : exAll c d a b = exAll a b c d := sum_swap a b c d id
theorem exFew_swap (a b c d : Nat) : exFew c d a b = exFew a b c d := by
  unfold exFew; rw [own_swap]; exact sum_swap a b c d (few _)
theorem exAll_turn (a b c d : Nat) : exAll b a d c = exAll a b c d := sum_turn a b c d id rfl
theorem exFew_turn (a b c d : Nat) : exFew b a d c = exFew a b c d := by
  unfold exFew; rw [own_turn]; exact sum_turn a b c d (few _) (few_zero _)

theorem exFew_le (a b c d : Nat) : exFew a b c d ≤ exAll a b c d := S_mono fun _ _ => few_le _ _
theorem exFew_pos (a b c d : Nat) : 0 < exFew a b c d := by
  have h : few (ways a b c d a) (ways a b c d a) ≤ exFew a b c d :=
    S_one (f := fun x => few (ways a b c d a) (ways a b c d x)) (k := a) (by omega)
  have : few (ways a b c d a) (ways a b c d a) = ways a b c d a := by unfold few; simp
  have p : 0 < ways a b c d a := by
    rw [ways_own]; exact Nat.mul_pos (C_pos (by omega)) (C_pos (by omega))
  omega

theorem exFew_equal (a b : Nat) : exFew a b a b = exAll a b a b := by
  unfold exFew exAll
  refine S_congr fun x hx => ?_
  have : ways a b a b x ≤ ways a b a b a := by
    rw [ways_own]; unfold ways; rw [if_pos (by omega)]; exact C_mid _ _ _ (by omega)
  unfold few
  rw [if_pos this]

/-- The test of signs. -/
def sgFew (n k : Nat) : Nat := S (fun x => few (C n k) (C n x)) (n + 1)

theorem sgFew_symm {n k : Nat} (h : k ≤ n) : sgFew n (n - k) = sgFew n k := by
  unfold sgFew; rw [C_symm h]

theorem sum_C (n m : Nat) (h : n < m) : S (C n) m = 2 ^ n := by
  have e : S (C n) m = S (C n) (n + 1) := S_more (by omega) fun x hx => C_gt (by omega)
  rw [e]
  clear e h
  induction n with
  | zero => rfl
  | succ n ih =>
    rw [S_front, C_zero]
    have e : S (fun x => C (n + 1) (x + 1)) (n + 1) = S (C n) (n + 1) + S (fun x => C n (x + 1)) (n + 1) := by
      have : ∀ m, S (fun x => C (n + 1) (x + 1)) m = S (C n) m + S (fun x => C n (x + 1)) m := by
        intro m
        induction m with
        | zero => rfl
        | succ m ihm => rw [S, S, S, ihm, C_succ]; omega
      exact this _
    have e2 : S (C n) (n + 1 + 1) = 1 + S (fun x => C n (x + 1)) (n + 1) := by rw [S_front, C_zero]
    have e3 : S (C n) (n + 1 + 1) = S (C n) (n + 1) := S_more (by omega) fun x hx => C_gt (by omega)
    rw [e, Nat.pow_succ, ← ih]
    omega

theorem sgFew_le (n k : Nat) : sgFew n k ≤ 2 ^ n := by
  rw [← sum_C n (n + 1) (by omega)]
  exact S_mono fun _ _ => few_le _ _

theorem sgFew_pos {n k : Nat} (h : k ≤ n) : 0 < sgFew n k := by
  have h1 : few (C n k) (C n k) ≤ sgFew n k := S_one (f := fun x => few (C n k) (C n x)) (k := k) (by omega)
  have : few (C n k) (C n k) = C n k := by unfold few; simp
  have := C_pos h
  omega

end Hb
