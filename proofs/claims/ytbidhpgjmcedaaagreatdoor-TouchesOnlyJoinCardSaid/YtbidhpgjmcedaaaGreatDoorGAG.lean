/- Texts of this claim, put together: DistP, Isort, ConsP, FieldP. -/
import Derived.Lib.Hide
import Derived.Test.YtbidhpgjmcedaaaGreatDoorGAB
import Derived.Test.YtbidhpgjmcedaaaGreatDoorGAD
import Derived.Test.YtbidhpgjmcedaaaGreatDoorGAC
/- The edit distance of two lists, cell by cell, and that it is the same both ways. -/
namespace Go.Proofs.YtbidhpgjmcedaaaGreatDoor
set_option linter.unusedVariables false
/-- The edit distance of two lists (read from their ends). -/
def levL : List Int → List Int → Int
  | [], b => b.length
  | _ :: a, [] => a.length + 1
  | x :: a, y :: b => min (min (levL a b + if x = y then 0 else 1) (levL (x :: a) b + 1)) (levL a (y :: b) + 1)
termination_by a b => a.length + b.length
theorem levL_nil (b : List Int) : levL [] b = b.length := by rw [levL]
theorem levL_nil_right (a : List Int) : levL a [] = a.length := by
  cases a with
  | nil => rw [levL]
  | cons x a => rw [levL]; simp
theorem levL_cons (x y : Int) (a b : List Int) : levL (x :: a) (y :: b) = min (min (levL a b + if x = y then 0 else 1) (levL (x :: a) b + 1)) (levL a (y :: b) + 1) := by rw [levL]
theorem levL_bound (n : Nat) : ∀ (a b : List Int), a.length + b.length = n → 0 ≤ levL a b ∧ levL a b ≤ a.length + b.length := by
  induction n using Nat.strongRecOn with
  | _ n ih =>
    intro a b h
    cases a with
    | nil => rw [levL_nil]; simp
    | cons x a =>
      cases b with
      | nil => rw [levL_nil_right]; simp; omega
      | cons y b =>
        simp only [List.length_cons] at h ⊢
        have h1 := ih (a.length + b.length) (by omega) a b rfl
        have h2 := ih ((x :: a).length + b.length) (by simp only [List.length_cons]; omega) (x :: a) b rfl
        have h3 := ih (a.length + (y :: b).length) (by simp only [List.length_cons]; omega) a (y :: b) rfl
        simp only [List.length_cons] at h2 h3
        rw [levL_cons]
        split <;> omega
theorem levL_comm_n (n : Nat) : ∀ (a b : List Int), a.length + b.length = n → levL a b = levL b a := by
  induction n using Nat.strongRecOn with
  | _ n ih =>
    intro a b h
    cases a with
    | nil => rw [levL_nil, levL_nil_right]
    | cons x a =>
      cases b with
      | nil => rw [levL_nil, levL_nil_right]
      | cons y b =>
        simp only [List.length_cons] at h
        have h1 := ih (a.length + b.length) (by omega) a b rfl
        have h2 := ih ((x :: a).length + b.length) (by simp only [List.length_cons]; omega) (x :: a) b rfl
        have h3 := ih (a.length + (y :: b).length) (by simp only [List.length_cons]; omega) a (y :: b) rfl
        rw [levL_cons, levL_cons, h1, h2, h3]
        by_cases e : x = y
        · subst e
          simp only [if_true]
          omega
        · rw [if_neg e, if_neg (fun e' => e e'.symm)]
          omega
theorem levL_comm (a b : List Int) : levL a b = levL b a := levL_comm_n _ a b rfl
/-- The cell (i, j) of the table. -/
def levAt (a b : List Int) (i j : Nat) : Int := levL (a.take i).reverse (b.take j).reverse
theorem levAt_zero (a b : List Int) {j : Nat} (h : j ≤ b.length) : levAt a b 0 j = j := by
  unfold levAt
  rw [List.take_zero, List.reverse_nil, levL_nil, List.length_reverse, List.length_take, Nat.min_eq_left h]
theorem levAt_zero_right (a b : List Int) {i : Nat} (h : i ≤ a.length) : levAt a b i 0 = i := by
  unfold levAt
  rw [List.take_zero, List.reverse_nil, levL_nil_right, List.length_reverse, List.length_take, Nat.min_eq_left h]
theorem take_succ_rev (a : List Int) {i : Nat} (h : i < a.length) : (a.take (i + 1)).reverse = a[i] :: (a.take i).reverse := by
  rw [List.take_add_one, List.getElem?_eq_getElem h]
  simp
theorem levAt_succ (a b : List Int) {i j : Nat} (hi : i < a.length) (hj : j < b.length) : levAt a b (i + 1) (j + 1) = min (min (levAt a b i j + if a[i] = b[j] then 0 else 1) (levAt a b (i + 1) j + 1)) (levAt a b i (j + 1) + 1) := by
  unfold levAt
  rw [take_succ_rev a hi, take_succ_rev b hj, levL_cons]
theorem levAt_bound (a b : List Int) (i j : Nat) : 0 ≤ levAt a b i j ∧ levAt a b i j ≤ a.length + b.length := by
  have h := levL_bound _ (a.take i).reverse (b.take j).reverse rfl
  simp only [List.length_reverse, List.length_take] at h
  unfold levAt
  omega
/-- What distance returns. -/
def distL (a b : List Int) : Int := levAt a b a.length b.length
theorem distL_comm (a b : List Int) : distL a b = distL b a := by
  unfold distL levAt
  rw [List.take_length, List.take_length, levL_comm]
end Go.Proofs.YtbidhpgjmcedaaaGreatDoor

/- Insertion sort of lists, plain; and blocks of elements of k cells. -/
namespace Go.Proofs.YtbidhpgjmcedaaaGreatDoor
set_option linter.unusedVariables false
open Go.RowKit

section
variable {D : Type}
/-- x goes in from the right, ahead of all that are greater. -/
def insLast (lt : D → D → Bool) (x : D) (acc : List D) : List D := (acc.reverse.dropWhile (lt x)).reverse ++ x :: (acc.reverse.takeWhile (lt x)).reverse
def isort (lt : D → D → Bool) (ds : List D) : List D := ds.foldl (fun acc x => insLast lt x acc) []
theorem isort_snoc (lt : D → D → Bool) (ds : List D) (x : D) : isort lt (ds ++ [x]) = insLast lt x (isort lt ds) := by simp [isort]
theorem takeWhile_all_append {p : D → Bool} {a b : List D} (ha : ∀ x ∈ a, p x = true) (hb : b.head?.map p ≠ some true) : (a ++ b).takeWhile p = a ∧ (a ++ b).dropWhile p = b := by
  induction a with
  | nil =>
    cases b with
    | nil => exact ⟨rfl, rfl⟩
    | cons y b =>
      have : p y = false := by cases h : p y <;> simp_all
      simp [this]
  | cons x a ih =>
    have h1 := ha x List.mem_cons_self
    have h2 := ih fun y hy => ha y (List.mem_cons_of_mem _ hy)
    simp [h1, h2]
theorem insLast_eq {lt : D → D → Bool} {x : D} {P S : List D} (hS : ∀ s ∈ S, lt x s = true) (hP : P.getLast?.map (lt x) ≠ some true) : insLast lt x (P ++ S) = P ++ x :: S := by
  have h := takeWhile_all_append (p := lt x) (a := S.reverse) (b := P.reverse) (by simpa using hS) (by simpa using hP)
  unfold insLast
  rw [List.reverse_append, h.1, h.2]
  simp
theorem insLast_perm (lt : D → D → Bool) (x : D) (acc : List D) : (insLast lt x acc).Perm (x :: acc) := by
  unfold insLast
  refine List.perm_middle.trans (List.Perm.cons x ?_)
  rw [← List.reverse_append]
  refine (List.reverse_perm _).trans ?_
  rw [List.takeWhile_append_dropWhile]
  exact List.reverse_perm _
theorem isort_perm (lt : D → D → Bool) (ds : List D) : (isort lt ds).Perm ds := by
  unfold isort
  have : ∀ acc : List D, (ds.foldl (fun acc x => insLast lt x acc) acc).Perm (acc ++ ds) := by
    induction ds with
    | nil => intro acc; simp
    | cons x ds ih =>
      intro acc
      rw [List.foldl_cons]
      refine (ih _).trans ?_
      refine (List.Perm.append_right ds (insLast_perm lt x acc)).trans ?_
      rw [List.cons_append]
      exact List.perm_middle.symm
  simpa using this []
theorem isort_length (lt : D → D → Bool) (ds : List D) : (isort lt ds).length = ds.length := (isort_perm lt ds).length_eq
theorem insLast_sorted {lt : D → D → Bool} (hA : ∀ a b, lt a b = true → lt b a = false) (hT : ∀ a b c, lt b a = false → lt c b = false → lt c a = false) {x : D} {acc : List D} (h : acc.Pairwise fun a b => lt b a = false) : (insLast lt x acc).Pairwise fun a b => lt b a = false := by
  have e : (acc.reverse.dropWhile (lt x)).reverse ++ (acc.reverse.takeWhile (lt x)).reverse = acc := by
    rw [← List.reverse_append, List.takeWhile_append_dropWhile, List.reverse_reverse]
  have hS : ∀ s ∈ (acc.reverse.takeWhile (lt x)).reverse, lt x s = true := fun s hs => by
    have : s ∈ acc.reverse.takeWhile (lt x) := by simpa using hs
    exact List.all_eq_true.1 List.all_takeWhile _ this
  have hP : ∀ y, (acc.reverse.dropWhile (lt x)).head? = some y → lt x y = false := fun y hy => by
    have := List.head?_dropWhile_not (lt x) acc.reverse
    rw [hy] at this
    simpa using this
  unfold insLast
  generalize acc.reverse.dropWhile (lt x) = Q at e hP
  generalize acc.reverse.takeWhile (lt x) = S at e hS
  rw [← e] at h
  rw [List.pairwise_append] at h ⊢
  obtain ⟨h1, h2, h3⟩ := h
  refine ⟨h1, List.pairwise_cons.2 ⟨fun s hs => hA _ _ (hS s hs), h2⟩, fun p hp s hs => ?_⟩
  rcases List.mem_cons.1 hs with rfl | hs
  · cases Q with
    | nil => simp at hp
    | cons y Q =>
      have hy := hP y rfl
      have hp' : p ∈ y :: Q := List.mem_reverse.1 hp
      rcases List.mem_cons.1 hp' with rfl | hq
      · exact hy
      · have h4 : lt y p = false := by
          rw [List.reverse_cons, List.pairwise_append] at h1
          exact h1.2.2 p (by simpa using hq) y (by simp)
        exact hT p y s h4 hy
  · exact h3 p hp s hs
theorem isort_sorted {lt : D → D → Bool} (hA : ∀ a b, lt a b = true → lt b a = false) (hT : ∀ a b c, lt b a = false → lt c b = false → lt c a = false) (ds : List D) : (isort lt ds).Pairwise fun a b => lt b a = false := by
  unfold isort
  have : ∀ acc : List D, acc.Pairwise (fun a b => lt b a = false) → (ds.foldl (fun acc x => insLast lt x acc) acc).Pairwise fun a b => lt b a = false := by
    induction ds with
    | nil => intro acc h; exact h
    | cons x ds ih => intro acc h; exact ih _ (insLast_sorted hA hT h)
  exact this [] List.Pairwise.nil

theorem nil_or_snoc (l : List D) : l = [] ∨ ∃ L b, l = L ++ [b] := by
  rcases List.eq_nil_or_concat l with h | ⟨L, b, h⟩
  · exact Or.inl h
  · exact Or.inr ⟨L, b, by rw [h, List.concat_eq_append]⟩

/-- The inner loop: x has come down to place j. -/
def SIn (lt : D → D → Bool) (acc : List D) (x : D) (R : List D) (j : Nat) (ys : List D) : Prop :=
  ∃ P S, ys = P ++ x :: (S ++ R) ∧ P ++ S = acc ∧ P.length = j ∧ ∀ s ∈ S, lt x s = true
section
variable {lt : D → D → Bool} {acc R ys : List D} {x : D} {j : Nat}
theorem SIn.start (acc R : List D) (x : D) : SIn lt acc x R acc.length (acc ++ x :: R) := ⟨acc, [], by simp, by simp, rfl, by simp⟩
theorem SIn.length (h : SIn lt acc x R j ys) : ys.length = acc.length + 1 + R.length ∧ j ≤ acc.length := by
  obtain ⟨P, S, rfl, rfl, rfl, _⟩ := h
  simp; omega
theorem SIn.at_ (h : SIn lt acc x R j ys) (hj : j < ys.length) : ys[j] = x := by
  obtain ⟨P, S, rfl, rfl, rfl, _⟩ := h
  simp
theorem SIn.swap (h : SIn lt acc x R j ys) (hj : 0 < j) (hl : j < ys.length) (hlt : lt x (ys[j - 1]'(by omega)) = true) : SIn lt acc x R (j - 1) ((ys.set j (ys[j - 1]'(by omega))).set (j - 1) x) := by
  obtain ⟨P, S, rfl, rfl, rfl, hS⟩ := h
  rcases nil_or_snoc P with rfl | ⟨P, y, rfl⟩
  · simp at hj
  · have e : ((P ++ [y]) ++ x :: (S ++ R))[(P ++ [y]).length - 1]'(by simp) = y := by simp
    rw [e] at hlt ⊢
    refine ⟨P, y :: S, ?_, by simp, by simp, ?_⟩
    · simp
    · intro s hs
      rcases List.mem_cons.1 hs with rfl | hs
      · exact hlt
      · exact hS s hs
theorem SIn.done (h : SIn lt acc x R j ys) (hl : ys.length = acc.length + 1 + R.length) (hlt : ∀ (h0 : 0 < j), lt x (ys[j - 1]'(by have := h.length; omega)) = false) : ys = insLast lt x acc ++ R := by
  have hn := h.length
  obtain ⟨P, S, rfl, rfl, rfl, hS⟩ := h
  rw [insLast_eq hS]
  · simp
  · rcases nil_or_snoc P with rfl | ⟨P, y, rfl⟩
    · simp
    · have := hlt (by simp)
      have e : ((P ++ [y]) ++ x :: (S ++ R))[(P ++ [y]).length - 1]'(by simp) = y := by simp
      rw [e] at this
      simp [this]
theorem SIn.mem (h : SIn lt acc x R j ys) {d : D} (hd : d ∈ ys) : d ∈ acc ∨ d = x ∨ d ∈ R := by
  obtain ⟨P, S, rfl, rfl, _, _⟩ := h
  simp at hd ⊢
  rcases hd with h | h | h | h <;> simp [h]
end

/-- Block g holds the elements ds, k cells each, and more behind them. -/
def KBlk (w : World) (g T k : Nat) (f : D → Nat → Value) (ds : List D) (rest : List Value) : Prop := w.heap[g]? = some (.cells (cellsOf k f ds ++ rest).toArray T (0, 0))
/-- Stores, one behind the other. -/
def setK (w : World) (g : Nat) : Nat → List Value → World
  | _, [] => w
  | o, v :: vs => setK (w.setCell ⟨g, o, none⟩ v) g (o + 1) vs
theorem setK_heap (w : World) (g o : Nat) (vs : List Value) {cs : Array Value} {T : TypeId} (h : w.heap[g]? = some (.cells cs T (0, 0))) (hl : o + vs.length ≤ cs.size) :
    (setK w g o vs).heap[g]? = some (.cells (cs.toList.take o ++ vs ++ cs.toList.drop (o + vs.length)).toArray T (0, 0)) := by
  induction vs generalizing w o cs with
  | nil => simp [setK, h]
  | cons v vs ih =>
    simp only [List.length_cons] at hl
    have h1 : (w.setCell ⟨g, o, none⟩ v).heap[g]? = some (.cells (cs.setIfInBounds o v) T (0, 0)) := by simp [World.setCell, Array.getElem?_modify, h]
    have := ih (w.setCell ⟨g, o, none⟩ v) (o + 1) h1 (by simp; omega)
    simp only [setK]
    rw [this]
    congr 2
    have e1 : (cs.setIfInBounds o v).toList = cs.toList.set o v := by simp
    rw [e1]
    apply congrArg List.toArray
    have e2 : (cs.toList.set o v).take (o + 1) = cs.toList.take o ++ [v] := by
      rw [List.take_set, List.take_succ_eq_append_getElem (by simp; omega), List.set_append_right _ _ (by simp; omega)]
      simp
      rw [show o - min o cs.size = 0 from by omega]
      rfl
    rw [e2, List.drop_set_of_lt (by omega)]
    simp [Nat.add_assoc, Nat.add_comm 1]
theorem setK_other (w : World) (g o : Nat) (vs : List Value) {b : Nat} (hb : b ≠ g) : (setK w g o vs).heap[b]? = w.heap[b]? := by
  induction vs generalizing w o with
  | nil => rfl
  | cons v vs ih => rw [setK, ih]; exact Below.heap_setCell w _ _ b hb
theorem setK_grown {a w : World} {g : Nat} (o : Nat) (vs : List Value) (h : a.grownBy w (some g)) : a.grownBy (setK w g o vs) (some g) := by
  induction vs generalizing w o with
  | nil => exact h
  | cons v vs ih =>
    exact ih (o + 1) ⟨h.os, h.tape, h.output, by simpa [World.setCell] using h.size, fun k hk hne => (Below.heap_setCell w _ v k (fun e => hne (by rw [e]))).trans (h.block k hk hne)⟩
theorem setK_in {H : Frz} {w : World} {g : Nat} (o : Nat) (vs : List Value) (h : H.In w) (hg : H g = none) : H.In (setK w g o vs) := by
  induction vs generalizing w o with
  | nil => exact h
  | cons v vs ih => exact ih (o + 1) (h.setCell (p := ⟨g, o, none⟩) hg v)
section
variable {w w' : World} {g T k : Nat} {f : D → Nat → Value} {ds : List D} {rest : List Value}
theorem KBlk.lt (h : KBlk w g T k f ds rest) : g < w.heap.size := lt_of_heap h
theorem KBlk.cell (h : KBlk w g T k f ds rest) (i j : Nat) (hi : i < ds.length) (hj : j < k) : w.cell? ⟨g, i * k + j, none⟩ = some (f ds[i] j) := by
  unfold KBlk at h
  have hx := cellsOf_get k f ds i j hi hj
  have hlt := (List.getElem?_eq_some_iff.1 hx).1
  simp only [World.cell?, h]
  simp only [Option.isSome_none, Bool.false_eq_true, if_false, List.getElem?_toArray]
  rw [List.getElem?_append_left hlt, hx]
theorem KBlk.frozen (h : KBlk w g T k f ds rest) (i : Nat) : w.frozen? ⟨g, i, none⟩ = false := by
  unfold KBlk at h
  simp [World.frozen?, h]
theorem KBlk.keep (h : KBlk w g T k f ds rest) (hb : Below w.heap.size w w') : KBlk w' g T k f ds rest := (hb.block g h.lt).trans h
theorem KBlk.drewN (h : KBlk w g T k f ds rest) (n : Nat) : KBlk (w.drewN n) g T k f ds rest := h
theorem cellsOf_split (k : Nat) (f : D → Nat → Value) (a b : List D) : cellsOf k f (a ++ b) = cellsOf k f a ++ cellsOf k f b := by simp [cellsOf]
theorem KBlk.put (h : KBlk w g T k f ds rest) (i : Nat) (hi : i < ds.length) (d : D) : KBlk (setK w g (i * k) ((List.range k).map (f d))) g T k f (ds.set i d) rest := by
  unfold KBlk at h ⊢
  have hl := cellsOf_len k f ds
  have hik : i * k + k ≤ ds.length * k := by rw [← Nat.succ_mul]; exact Nat.mul_le_mul_right _ hi
  rw [setK_heap w g (i * k) _ h (by simp [hl]; omega)]
  congr 3
  have e1 : ds.set i d = ds.take i ++ d :: ds.drop (i + 1) := List.set_eq_take_append_cons_drop .. |>.trans (by rw [if_pos hi])
  have l1 : (cellsOf k f (ds.take i)).length = i * k := by rw [cellsOf_len, List.length_take]; congr 1; omega
  rw [e1]
  have e3 : cellsOf k f ds = cellsOf k f (ds.take i) ++ ((List.range k).map (f ds[i]) ++ cellsOf k f (ds.drop (i + 1))) := by
    have h3 : cellsOf k f ds = cellsOf k f (ds.take i ++ ds.drop i) := by rw [List.take_append_drop]
    rw [h3, cellsOf_split]
    congr 1
    rw [List.drop_eq_getElem_cons hi]
    rfl
  have e4 : cellsOf k f (ds.take i ++ d :: ds.drop (i + 1)) = cellsOf k f (ds.take i) ++ ((List.range k).map (f d) ++ cellsOf k f (ds.drop (i + 1))) := by
    rw [cellsOf_split]
    simp [cellsOf]
  rw [e3, e4]
  simp only [List.append_assoc]
  rw [List.take_left' l1]
  congr 1
  congr 1
  rw [List.length_map, List.length_range, ← List.append_assoc (cellsOf k f (ds.take i)), List.drop_left' (by simp [l1])]
end
end
end Go.Proofs.YtbidhpgjmcedaaaGreatDoor

/- Consents, in plain words: policies, statements, answers. -/
namespace Go.Proofs.YtbidhpgjmcedaaaGreatDoor
set_option linter.unusedVariables false
open Go.RowKit

structure StD where
  no : Int
  at_ : Int
  kind : Int
  text : ByteArray
  purp : ByteArray
  region : ByteArray
  ch : Int
  what : Int
def fSt (d : StD) : Nat → Value
  | 0 => .int .i64 d.no
  | 1 => .int .i64 d.at_
  | 2 => .int .i64 d.kind
  | 3 => .string d.text
  | 4 => .string d.purp
  | 5 => .string d.region
  | 6 => .int .i64 d.ch
  | _ => .int .i64 d.what
def zeroSt : StD := ⟨0, 0, 0, ⟨#[]⟩, ⟨#[]⟩, ⟨#[]⟩, 0, 0⟩
structure TermD where
  region : ByteArray
  ch : Int
  free : Bool
  days : Int
  wait : Int
def fTe (d : TermD) : Nat → Value
  | 0 => .string d.region
  | 1 => .int .i64 d.ch
  | 2 => .bool d.free
  | 3 => .int .i64 d.days
  | _ => .int .i64 d.wait
def zeroTe : TermD := ⟨⟨#[]⟩, 0, false, 0, 0⟩
structure PurD where
  name : ByteArray
  adr : Option Addr
  cap : Nat
  terms : List TermD
def fPu (d : PurD) : Nat → Value
  | 0 => .string d.name
  | _ => .slice d.adr d.terms.length d.cap
structure AnsD where
  may : Bool
  why : Int
  no : Int
def ansV (a : AnsD) : Value := .agg #[.bool a.may, .int .i64 a.why, .int .i64 a.no]

def eqS (a b : ByteArray) : Bool := a.toList == b.toList
theorem eqS_iff {a b : ByteArray} : eqS a b = true ↔ a = b := by
  unfold eqS
  rw [beq_iff_eq]
  exact ⟨toList_inj, fun h => by rw [h]⟩
theorem eqS_self (a : ByteArray) : eqS a a = true := eqS_iff.2 rfl
theorem cmpS_le_trans {a b c : ByteArray} (h1 : cmpS a b ≤ 0) (h2 : cmpS b c < 0) : cmpS a c < 0 := by
  rcases Int.lt_or_eq_of_le h1 with h | h
  · exact cmpS_trans h h2
  · rw [cmpS_zero h]; exact h2
/-- The first of two orders, then the second. -/
def orI (a b : Int) : Int := if a = 0 then b else a
theorem orL_two (a b : Int) : orL [a, b] = orI a b := by
  unfold orI orL orL orL
  split
  · split <;> omega
  · rfl

/-- The error of the first of n checks that fails. -/
def fstErr (f : Nat → Int) : Nat → Int
  | 0 => 0
  | n + 1 => if fstErr f n = 0 then f n else fstErr f n
theorem fstErr_zero {f : Nat → Int} {n : Nat} : fstErr f n = 0 ↔ ∀ i, i < n → f i = 0 := by
  induction n with
  | zero => simp [fstErr]
  | succ n ih =>
    unfold fstErr
    constructor
    · intro h
      by_cases e : fstErr f n = 0
      · rw [if_pos e] at h
        intro i hi
        by_cases c : i = n
        · rw [c]; exact h
        · exact ih.1 e i (by omega)
      · rw [if_neg e] at h; exact absurd h e
    · intro h
      rw [if_pos (ih.2 fun i hi => h i (by omega))]
      exact h n (by omega)
theorem fstErr_bad {f : Nat → Int} {n i : Nat} (hi : i < n) (h0 : fstErr f i = 0) (he : f i ≠ 0) : fstErr f n = f i := by
  induction n with
  | zero => omega
  | succ n ih =>
    unfold fstErr
    by_cases c : i = n
    · subst c; rw [if_pos h0]
    · rw [ih (by omega), if_neg he]
theorem fstErr_next {f : Nat → Int} {i : Nat} (h0 : fstErr f i = 0) (he : f i = 0) : fstErr f (i + 1) = 0 := by
  unfold fstErr; rw [if_pos h0]; exact he
theorem fstErr_mem {f : Nat → Int} {n : Nat} (P : Int → Prop) (h0 : P 0) (h : ∀ i, i < n → P (f i)) : P (fstErr f n) := by
  induction n with
  | zero => exact h0
  | succ n ih =>
    unfold fstErr
    split
    · exact h n (by omega)
    · exact ih fun i hi => h i (by omega)

def chB (n : Int) : Bool := decide (1 ≤ n) && decide (n ≤ 4)
def ofCh (what : Int) : Bool := decide (what = 4) || decide (what = 5)
/-- Order of terms. -/
def teCmp (a b : TermD) : Int := orI (cmpS a.region b.region) (cmpI a.ch b.ch)
def teErr (ts : List TermD) (i : Nat) : Int := match ts[i]? with
  | none => 0
  | some t =>
    if isKey t.region = false then 5 else if chB t.ch = false then 4 else if t.free = true ∧ (t.days ≠ 0 ∨ t.wait ≠ 0) then 3
    else if ¬ (0 ≤ t.days ∧ t.days ≤ 2000 ∧ 0 ≤ t.wait ∧ t.wait ≤ 100000) then 1
    else if 0 < i ∧ 0 ≤ teCmp (ts.getD (i - 1) zeroTe) t then 7 else 0
def tesErr (ts : List TermD) : Int := if 160 < ts.length then 2 else fstErr (teErr ts) ts.length
def puErr (ps : List PurD) (i : Nat) : Int := match ps[i]? with
  | none => 0
  | some p => if isKey p.name = false then 5 else if 0 < i ∧ 0 ≤ cmpS (ps.getD (i - 1) p).name p.name then 7 else tesErr p.terms
def polErr (ps : List PurD) : Int := if ps.length = 0 then 3 else if 30 < ps.length then 2 else fstErr (puErr ps) ps.length
/-- The purpose with a name; the term. -/
def purF (ps : List PurD) (name : ByteArray) : Option PurD := ps.find? fun p => eqS p.name name
def teF (ts : List TermD) (region : ByteArray) (ch : Int) : Option TermD := ts.find? fun t => eqS t.region region && decide (t.ch = ch)
def termF (ps : List PurD) (purp region : ByteArray) (ch : Int) : Option TermD := match purF ps purp with
  | none => none
  | some p => teF p.terms region ch

/-- By At, then by No. -/
def stCmp (a b : StD) : Int := orI (cmpI a.at_ b.at_) (cmpI a.no b.no)
def stLt (a b : StD) : Bool := decide (stCmp a b < 0)
def ownB (kind : Int) (text : ByteArray) (ch : Int) (s : StD) : Bool := (decide (s.kind = kind) && eqS s.text text) && decide (s.ch = ch)
def saidF (ss : List StD) (kind : Int) (text : ByteArray) (ch : Int) : List StD := isort stLt (ss.filter (ownB kind text ch))
def upTo (l : List StD) (at_ : Int) : List StD := l.takeWhile fun s => decide (s.at_ ≤ at_)

structure ObjD where
  no : Int
  last : Int
  is : Bool
def objStep (s : ObjD) (x : StD) : ObjD :=
  if ofCh x.what = false then s else
  let s1 := if s.last < x.at_ then ⟨0, x.at_, false⟩ else s
  if x.what = 4 ∧ s1.is = false then ⟨x.no, s1.last, true⟩ else s1
def objF (l : List StD) : ObjD := l.foldl objStep ⟨0, -1, false⟩
/-- The last withdrawal of a purpose. -/
def wdStep (purp : ByteArray) (w : Option StD) (s : StD) : Option StD :=
  if s.what = 3 ∧ eqS s.purp purp = true ∧ (w.isNone = true ∨ (w.getD zeroSt).at_ < s.at_) then some s else w
def wdF (purp : ByteArray) (l : List StD) : Option StD := l.foldl (wdStep purp) none
def grB (purp : ByteArray) (w : Option StD) (s : StD) : Bool := decide (s.what = 1) && eqS s.purp purp && (w.isNone || decide ((w.getD zeroSt).at_ < s.at_))
def grF (purp : ByteArray) (l : List StD) : List StD := l.filter (grB purp (wdF purp l))
def coB (purp : ByteArray) (from_ to_ : Int) (s : StD) : Bool := decide (s.what = 2) && eqS s.purp purp && (decide (from_ ≤ s.at_) && decide (s.at_ ≤ to_))
def coF (purp : ByteArray) (from_ to_ : Int) (l : List StD) : Option StD := l.find? (coB purp from_ to_)
/-- The state of a grant, as a reason. -/
def stateF (l : List StD) (t : TermD) (g : StD) (at_ : Int) : Int :=
  if t.days ≠ 0 ∧ g.at_ + t.days * 1440 ≤ at_ then 7 else if t.wait = 0 then 2 else if (coF g.purp g.at_ (g.at_ + t.wait) l).isSome = true then 2
  else if at_ ≤ g.at_ + t.wait then 8 else 9
def rankF (why : Int) : Int := if why = 2 then 0 else if why = 8 then 1 else if why = 9 then 2 else if why = 7 then 3 else -1
structure BestD where
  why : Int
  at_ : Int
  no : Int
def bestStep (l : List StD) (t : TermD) (at_ : Int) (b : BestD) (g : StD) : BestD :=
  if b.why = 0 ∨ rankF (stateF l t g at_) < rankF b.why ∨ (stateF l t g at_ = b.why ∧ b.at_ < g.at_) then ⟨stateF l t g at_, g.at_, g.no⟩ else b
def bestF (l : List StD) (t : TermD) (at_ : Int) (gs : List StD) : BestD := gs.foldl (bestStep l t at_) ⟨0, 0, 0⟩
/-- The answer without objections. -/
def allowF (l : List StD) (t : TermD) (purp : ByteArray) (at_ : Int) : AnsD :=
  if (wdF purp l).isSome = true ∧ (grF purp l).length = 0 then ⟨false, 5, ((wdF purp l).getD zeroSt).no⟩
  else if t.free = true then ⟨true, 1, 0⟩
  else if (grF purp l).length = 0 then ⟨false, 4, 0⟩
  else ⟨decide ((bestF l t at_ (grF purp l)).why = 2), (bestF l t at_ (grF purp l)).why, (bestF l t at_ (grF purp l)).no⟩
def answerF (t : Option TermD) (purp : ByteArray) (said : List StD) (at_ : Int) : AnsD :=
  match t with
  | none => ⟨false, 3, 0⟩
  | some t => if (objF (upTo said at_)).is = true then ⟨false, 6, (objF (upTo said at_)).no⟩ else allowF (upTo said at_) t purp at_
structure QueD where
  kind : Int
  text : ByteArray
  purp : ByteArray
  region : ByteArray
  ch : Int
  at_ : Int
def askF (ps : List PurD) (ss : List StD) (kind : Int) (text purp region : ByteArray) (ch at_ : Int) : AnsD := answerF (termF ps purp region ch) purp (saidF ss kind text ch) at_
/-- What is wrong with statements. -/
def stErr (idE : Int → ByteArray → Int) (ps : List PurD) (ss : List StD) (i : Nat) : Int := match ss[i]? with
  | none => 0
  | some s =>
    if ¬ (1 ≤ s.no ∧ s.no ≤ 1000000) then 1 else if 0 < i ∧ s.no ≤ (ss.getD (i - 1) s).no then 7 else if ¬ (0 ≤ s.at_ ∧ s.at_ ≤ 4321439) then 1
    else if idE s.kind s.text ≠ 0 then idE s.kind s.text
    else if ¬ (chB s.ch = true ∧ 1 ≤ s.what ∧ s.what ≤ 5) then 4
    else if ofCh s.what = true ∧ ¬ s.purp.size = 0 then 3 else if ofCh s.what = false ∧ (purF ps s.purp).isNone = true then 8
    else if isKey s.region = false then 5 else 0
def sayErr (idE : Int → ByteArray → Int) (ps : List PurD) (ss : List StD) : Int :=
  if polErr ps ≠ 0 then polErr ps else if 3000 < ss.length then 2 else fstErr (stErr idE ps ss) ss.length
/-- What is wrong with a question. -/
def queErr (ps : List PurD) (purp region : ByteArray) (ch at_ : Int) : Int :=
  if (purF ps purp).isNone = true then 8 else if isKey region = false then 5 else if chB ch = false then 4 else if ¬ (0 ≤ at_ ∧ at_ ≤ 4321439) then 1 else 0
def mayErr (idE : Int → ByteArray → Int) (ps : List PurD) (ss : List StD) (q : QueD) : Int :=
  if sayErr idE ps ss ≠ 0 then sayErr idE ps ss else if idE q.kind q.text ≠ 0 then idE q.kind q.text else queErr ps q.purp q.region q.ch q.at_

/- Laws. -/
theorem stCmp_swap (a b : StD) : stCmp b a = - stCmp a b := by
  unfold stCmp orI
  rw [cmpI_swap a.at_ b.at_, cmpI_swap a.no b.no]
  split <;> split <;> omega
theorem stLt_iff {a b : StD} : stLt a b = true ↔ a.at_ < b.at_ ∨ (a.at_ = b.at_ ∧ a.no < b.no) := by
  unfold stLt stCmp orI
  rw [decide_eq_true_iff]
  by_cases h : cmpI a.at_ b.at_ = 0
  · rw [if_pos h, cmpI_lt]
    have := cmpI_zero.1 h
    omega
  · rw [if_neg h, cmpI_lt]
    have : ¬ a.at_ = b.at_ := fun e => h (cmpI_zero.2 e)
    omega
theorem stLt_false {a b : StD} : stLt a b = false ↔ b.at_ < a.at_ ∨ (a.at_ = b.at_ ∧ b.no ≤ a.no) := by
  rw [← Bool.not_eq_true, stLt_iff]; omega
theorem stLt_asymm (a b : StD) (h : stLt a b = true) : stLt b a = false := by
  rw [stLt_iff] at h; rw [stLt_false]; omega
theorem stLt_trans (a b c : StD) (h1 : stLt b a = false) (h2 : stLt c b = false) : stLt c a = false := by
  rw [stLt_false] at *; omega
theorem saidF_sorted (ss : List StD) (kind : Int) (text : ByteArray) (ch : Int) : (saidF ss kind text ch).Pairwise fun a b => stLt b a = false := isort_sorted stLt_asymm stLt_trans _
theorem saidF_at (ss : List StD) (kind : Int) (text : ByteArray) (ch : Int) : (saidF ss kind text ch).Pairwise fun a b => a.at_ ≤ b.at_ := (saidF_sorted ss kind text ch).imp fun h => by rw [stLt_false] at h; omega
theorem upTo_filter {l : List StD} (h : l.Pairwise fun a b => a.at_ ≤ b.at_) (at_ : Int) : upTo l at_ = l.filter fun s => decide (s.at_ ≤ at_) := by
  unfold upTo
  induction l with
  | nil => rfl
  | cons x l ih =>
    rw [List.pairwise_cons] at h
    by_cases hx : x.at_ ≤ at_
    · simp [hx, ih h.2]
    · have : l.filter (fun s => decide (s.at_ ≤ at_)) = [] := by
        rw [List.filter_eq_nil_iff]
        intro y hy
        have := h.1 y hy
        simp; omega
      simp [hx, this]
/-- Sorting and leaving out commute, where the leaving out is by the sort's order. -/
theorem insLast_filter {p : StD → Bool} {x : StD} {acc : List StD} (hs : acc.Pairwise fun a b => stLt b a = false) (hp : p x = true) : (insLast stLt x acc).filter p = insLast stLt x (acc.filter p) := by
  have e : (acc.reverse.dropWhile (stLt x)).reverse ++ (acc.reverse.takeWhile (stLt x)).reverse = acc := by
    rw [← List.reverse_append, List.takeWhile_append_dropWhile, List.reverse_reverse]
  have hS : ∀ s ∈ (acc.reverse.takeWhile (stLt x)).reverse, stLt x s = true := fun s hs => by
    have : s ∈ acc.reverse.takeWhile (stLt x) := by simpa using hs
    exact List.all_eq_true.1 List.all_takeWhile _ this
  have hP : ∀ y, (acc.reverse.dropWhile (stLt x)).head? = some y → stLt x y = false := fun y hy => by
    have := List.head?_dropWhile_not (stLt x) acc.reverse
    rw [hy] at this
    simpa using this
  have hP2 : ∀ y ∈ (acc.reverse.dropWhile (stLt x)).reverse, stLt x y = false := by
    intro y hy
    rw [← e, List.pairwise_append] at hs
    generalize acc.reverse.dropWhile (stLt x) = Q at hP hs hy
    cases Q with
    | nil => simp at hy
    | cons z Q =>
      have hz := hP z rfl
      rcases List.mem_cons.1 (List.mem_reverse.1 hy) with rfl | hq
      · exact hz
      · have h4 : stLt z y = false := by
          have h1 := hs.1
          rw [List.reverse_cons, List.pairwise_append] at h1
          exact h1.2.2 y (by simpa using hq) z (by simp)
        exact stLt_trans y z x h4 hz
  have e1 : insLast stLt x acc = (acc.reverse.dropWhile (stLt x)).reverse ++ x :: (acc.reverse.takeWhile (stLt x)).reverse := rfl
  have e2 : acc.filter p = ((acc.reverse.dropWhile (stLt x)).reverse).filter p ++ ((acc.reverse.takeWhile (stLt x)).reverse).filter p := by rw [← List.filter_append, e]
  rw [e1, e2, List.filter_append, List.filter_cons, if_pos hp]
  rw [insLast_eq]
  · intro s hs'
    exact hS s ((List.mem_filter.1 hs').1)
  · intro c
    cases hl : (((acc.reverse.dropWhile (stLt x)).reverse).filter p).getLast? with
    | none => rw [hl] at c; cases c
    | some y =>
      rw [hl] at c
      have hy := List.mem_of_getLast? hl
      have := hP2 y (List.mem_filter.1 hy).1
      simp [this] at c
theorem insLast_filter_no {p : StD → Bool} {x : StD} {acc : List StD} (hp : p x = false) : (insLast stLt x acc).filter p = acc.filter p := by
  have e : (acc.reverse.dropWhile (stLt x)).reverse ++ (acc.reverse.takeWhile (stLt x)).reverse = acc := by
    rw [← List.reverse_append, List.takeWhile_append_dropWhile, List.reverse_reverse]
  have e1 : insLast stLt x acc = (acc.reverse.dropWhile (stLt x)).reverse ++ x :: (acc.reverse.takeWhile (stLt x)).reverse := rfl
  have e2 : acc.filter p = ((acc.reverse.dropWhile (stLt x)).reverse).filter p ++ ((acc.reverse.takeWhile (stLt x)).reverse).filter p := by rw [← List.filter_append, e]
  rw [e1, e2, List.filter_append, List.filter_cons, if_neg (by simp [hp])]
theorem isort_filter (p : StD → Bool) (ds : List StD) : (isort stLt ds).filter p = isort stLt (ds.filter p) := by
  have : ∀ (n : Nat) (ds : List StD), ds.length = n → (isort stLt ds).filter p = isort stLt (ds.filter p) := by
    intro n
    induction n with
    | zero =>
      intro ds h
      rw [List.eq_nil_of_length_eq_zero h]; rfl
    | succ n ih =>
      intro ds h
      rcases nil_or_snoc ds with rfl | ⟨L, b, rfl⟩
      · simp at h
      · have hL : L.length = n := by simpa using h
        rw [isort_snoc, List.filter_append]
        cases hb : p b with
        | true =>
          rw [insLast_filter (isort_sorted stLt_asymm stLt_trans _) hb, ih L hL]
          simp [hb, isort_snoc]
        | false =>
          rw [insLast_filter_no hb, ih L hL]
          simp [hb]
  exact this _ ds rfl
/-- What is said later changes no answer. -/
theorem askF_back (ps : List PurD) (ss : List StD) (kind : Int) (text purp region : ByteArray) (ch at_ : Int) : askF ps (ss.filter fun s => decide (s.at_ ≤ at_)) kind text purp region ch at_ = askF ps ss kind text purp region ch at_ := by
  have h : upTo (saidF (ss.filter fun s => decide (s.at_ ≤ at_)) kind text ch) at_ = upTo (saidF ss kind text ch) at_ := by
    rw [upTo_filter (saidF_at _ _ _ _), upTo_filter (saidF_at _ _ _ _)]
    unfold saidF
    rw [isort_filter, isort_filter, List.filter_filter, List.filter_filter, List.filter_filter]
    congr 1
    apply List.filter_congr
    intro s _
    cases ownB kind text ch s <;> cases decide (s.at_ ≤ at_) <;> rfl
  unfold askF answerF
  rw [h]
end Go.Proofs.YtbidhpgjmcedaaaGreatDoor

/- Values and fields, what is wrong with them, and the points of two records, which are the same both ways. -/
namespace Go.Proofs.YtbidhpgjmcedaaaGreatDoor
set_option linter.unusedVariables false
open Go.RowKit
/-- A value. -/
structure VD where
  kind : Int
  text : ByteArray
  num : Int
/-- A field. -/
structure FD where
  name : ByteArray
  v : VD
/-- A measure. -/
structure MsD where
  name : ByteArray
  how : Int
  far : Int
  pts : Int
def vV (v : VD) : Value := .agg #[.int .i64 v.kind, .string v.text, .int .i64 v.num]
def fFd (f : FD) : Nat → Value
  | 0 => .string f.name
  | 1 => .int .i64 f.v.kind
  | 2 => .string f.v.text
  | _ => .int .i64 f.v.num
def fMs (m : MsD) : Nat → Value
  | 0 => .string m.name
  | 1 => .int .i64 m.how
  | 2 => .int .i64 m.far
  | _ => .int .i64 m.pts
/-- The value of a field by its name. -/
def findF (l : List FD) (n : ByteArray) : Option VD := (l.find? fun f => f.name.toList == n.toList).map (·.v)
/-- Two values are one. -/
def sameV (a b : VD) : Bool := a.kind == b.kind && (a.text.toList == b.text.toList) && a.num == b.num
theorem sameV_comm (a b : VD) : sameV a b = sameV b a := by
  unfold sameV
  rw [Bool.beq_comm (a := a.kind), Bool.beq_comm (a := a.text.toList), Bool.beq_comm (a := a.num)]
/-- Two values are alike (pt: the code points of a text). -/
def alikeV (pt : ByteArray → List Int) (m : MsD) (a b : VD) : Bool :=
  if m.how = 1 then sameV a b
  else if a.kind = 1 ∧ b.kind = 1 then
    if m.how = 2 then decide (distL (pt a.text) (pt b.text) ≤ m.far)
    else decide (m.far ≤ (pt a.text).length) && decide (m.far ≤ (pt b.text).length) && ((pt a.text).take m.far.toNat == (pt b.text).take m.far.toNat)
  else false
theorem alikeV_comm (pt : ByteArray → List Int) (m : MsD) (a b : VD) : alikeV pt m a b = alikeV pt m b a := by
  unfold alikeV
  rw [sameV_comm, distL_comm]
  have e1 : (a.kind = 1 ∧ b.kind = 1) = (b.kind = 1 ∧ a.kind = 1) := propext And.comm
  have e2 : ((pt a.text).take m.far.toNat == (pt b.text).take m.far.toNat) = ((pt b.text).take m.far.toNat == (pt a.text).take m.far.toNat) := Bool.beq_comm
  simp only [e1, e2]
  rw [Bool.and_comm (decide (m.far ≤ (pt a.text).length))]
/-- What one measure gives. -/
def ptsOf (pt : ByteArray → List Int) (a b : List FD) (m : MsD) : Int :=
  match findF a m.name, findF b m.name with
  | some v, some w => if alikeV pt m v w = true then m.pts else 0
  | _, _ => 0
theorem ptsOf_comm (pt : ByteArray → List Int) (a b : List FD) (m : MsD) : ptsOf pt a b m = ptsOf pt b a m := by
  unfold ptsOf
  cases findF a m.name <;> cases findF b m.name <;> simp [alikeV_comm pt m]
/-- The points of two records. -/
def scoreL (pt : ByteArray → List Int) (ms : List MsD) (a b : List FD) : Int := (ms.map (ptsOf pt a b)).sum
theorem scoreL_comm (pt : ByteArray → List Int) (ms : List MsD) (a b : List FD) : scoreL pt ms a b = scoreL pt ms b a := by
  unfold scoreL
  congr 1
  exact List.map_congr_left fun m _ => ptsOf_comm pt a b m
/-- A text that a value may have. -/
def txtErr (ok : ByteArray → Bool) (s : ByteArray) : Int := if 200 < s.size then 2 else if ok s = true then 0 else 3
/-- What is wrong with a value. -/
def valErr (ok : ByteArray → Bool) (v : VD) : Int :=
  if v.kind = 1 then (if v.num = 0 then txtErr ok v.text else 3)
  else if v.kind = 2 ∨ v.kind = 3 ∨ v.kind = 4 then
    if v.text.size ≠ 0 then 3
    else if (if v.kind = 2 then -1000000000000 else 0) ≤ v.num ∧ v.num ≤ (if v.kind = 2 then 1000000000000 else if v.kind = 3 then 1 else 4321439) then 0 else 1
  else 4
end Go.Proofs.YtbidhpgjmcedaaaGreatDoor
