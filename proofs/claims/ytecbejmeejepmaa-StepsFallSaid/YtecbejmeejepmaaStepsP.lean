/- Letters that were sent, and what people did with them, in plain words. -/
import Derived.Test.YtecbejmeejepmaaKey
import Derived.Test.YtecbejmeejepmaaMp
import Derived.Test.YtecbejmeejepmaaOrow
import Derived.StringKeys
namespace Go.Proofs.Ytecbejmeejepmaa
set_option linter.unusedVariables false
open Go.RowKit

structure SentD where
  id : ByteArray
  person : ByteArray
  letter : ByteArray
  at_ : Int
def fSe (d : SentD) : Nat → Value
  | 0 => .string d.id
  | 1 => .string d.person
  | 2 => .string d.letter
  | _ => .int .i64 d.at_
structure ActD where
  sent : ByteArray
  kind : Int
  at_ : Int
def fA (d : ActD) : Nat → Value
  | 0 => .string d.sent
  | 1 => .int .i64 d.kind
  | _ => .int .i64 d.at_
structure RowD where
  letter : List UInt8
  sent : Nat
  opened : Nat
  clicked : Nat
  bought : Nat
  left : Nat
def fRow (d : RowD) : Nat → Value
  | 0 => .string ⟨d.letter.toArray⟩
  | 1 => .int .i64 d.sent
  | 2 => .int .i64 d.opened
  | 3 => .int .i64 d.clicked
  | 4 => .int .i64 d.bought
  | _ => .int .i64 d.left
/-- The first error of n checks, or none. -/
def IsErr (f : Nat → Int) (n : Nat) (e : Int) : Prop := (e = 0 ∧ ∀ i, i < n → f i = 0) ∨ (e ≠ 0 ∧ ∃ i, i < n ∧ f i = e ∧ ∀ j, j < i → f j = 0)
theorem IsErr.one {f : Nat → Int} {n : Nat} {e e' : Int} (h : IsErr f n e) (h' : IsErr f n e') : e = e' := by
  rcases h with ⟨rfl, h⟩ | ⟨hn, i, hi, he, hj⟩
  · rcases h' with ⟨rfl, _⟩ | ⟨hn', i', hi', he', hj'⟩
    · rfl
    · rw [h i' hi'] at he'; exact absurd he'.symm hn'
  · rcases h' with ⟨rfl, h'⟩ | ⟨hn', i', hi', he', hj'⟩
    · rw [h' i hi] at he; exact absurd he.symm hn
    · rcases Nat.lt_trichotomy i i' with hlt | rfl | hlt
      · rw [hj' i hlt] at he; exact absurd he.symm hn
      · rw [← he, ← he']
      · rw [hj i' hlt] at he'; exact absurd he'.symm hn'
theorem IsErr.bad {f : Nat → Int} {n i : Nat} {e : Int} (hi : i < n) (hj : ∀ j, j < i → f j = 0) (he : f i = e) (hn : e ≠ 0) : IsErr f n e := Or.inr ⟨hn, i, hi, he, hj⟩
theorem IsErr.good {f : Nat → Int} {n : Nat} (h : ∀ i, i < n → f i = 0) : IsErr f n 0 := Or.inl ⟨rfl, h⟩
theorem IsErr.all {f : Nat → Int} {n : Nat} (h : IsErr f n 0) : ∀ i, i < n → f i = 0 := by
  rcases h with ⟨_, h⟩ | ⟨hn, _⟩
  · exact h
  · exact absurd rfl hn
theorem errStep {f : Nat → Int} {i : Nat} (h : ∀ j, j < i → f j = 0) (hi : f i = 0) : ∀ j, j < i + 1 → f j = 0 := fun j hj => by
  by_cases e : j = i
  · rw [e]; exact hi
  · exact h j (by omega)
def ErrPost (f : Nat → Int) (n : Nat) (w : World) (e : Ending) (w' : World) : Prop := ∃ k : Int, e = .returned (.int .i64 k) ∧ IsErr f n k ∧ Below w.heap.size w w'

/-- A string ac a key. -/
def codeLit (s : ByteArray) : Lit := .string s.data.toList
theorem bytes_ext' {a b : ByteArray} (h : a.data.toList = b.data.toList) : a = b := by
  cases a; cases b
  simp only [Array.toList_inj] at h
  rw [h]
theorem sameKey_code (a b : ByteArray) : (codeLit a).sameKey (codeLit b) = (b.toList == a.toList) := by
  unfold codeLit Lit.sameKey
  rw [Bool.eq_iff_iff]
  simp only [beq_iff_eq]
  constructor
  · intro h; rw [show a = b from bytes_ext' h]
  · intro h
    rw [ByteArray.toList_eq, ByteArray.toList_eq] at h
    exact h.symm
theorem strKeyed : Maps.Keyed Try.prog 9 := Maps.string_keyed Try.underlying9
theorem strKey {s : ByteArray} (h : s.size ≤ 1000000000) : keyOf Try.prog 9 (.string s) = some (codeLit s) := Go.WideMaps.keyOf_string_mk Try.underlying9 (by unfold maxLen; omega)

def sameId (k : ByteArray) (x : SentD) : Bool := x.id.toList == k.toList
def prevAt (ss : List SentD) (i : Nat) : Int := match ss[i - 1]? with | some s => s.at_ | none => 0
/-- What is wrong with a letter that was sent. -/
def sentErr (s : SentD) (dup late : Bool) : Int :=
  if isKey s.id = false then 5 else if dup = true then 6 else if isKey s.person = false then 5 else if isKey s.letter = false then 5 else if ¬ (0 ≤ s.at_ ∧ s.at_ ≤ 4321439) then 1 else if late = true then 7 else 0
def lateB (ss : List SentD) (i : Nat) (s : SentD) : Bool := decide (0 < i) && decide (s.at_ < prevAt ss i)
def sentAt (ss : List SentD) (i : Nat) : Int := match ss[i]? with | none => 0 | some s => sentErr s ((ss.take i).any (sameId s.id)) (lateB ss i s)
theorem sentAt_eq {ss : List SentD} {i : Nat} (h : i < ss.length) : sentAt ss i = sentErr ss[i] ((ss.take i).any (sameId ss[i].id)) (lateB ss i ss[i]) := by
  unfold sentAt
  rw [List.getElem?_eq_getElem h]
/-- The ids that were seen, ac a map. -/
def seenMp (ss : List SentD) : Lit → Option Value := fun l => if ss.any (fun x => l.sameKey (codeLit x.id)) then some (.bool true) else none
theorem seenMp_get (ss : List SentD) (k : ByteArray) : (seenMp ss (codeLit k)).getD (.bool false) = .bool (ss.any (sameId k)) := by
  unfold seenMp
  have : (fun x : SentD => (codeLit k).sameKey (codeLit x.id)) = sameId k := by
    funext x
    rw [sameKey_code]; rfl
  rw [this]
  cases ss.any (sameId k) <;> rfl
theorem seenMp_snoc (ss : List SentD) (s : SentD) : mpSet (seenMp ss) (codeLit s.id) (.bool true) = seenMp (ss ++ [s]) := by
  funext l
  unfold mpSet seenMp
  rw [List.any_append]
  by_cases e : l.sameKey (codeLit s.id) = true
  · simp [e]
  · have e' : l.sameKey (codeLit s.id) = false := by simpa using e
    simp [e']
theorem seenMp_nil : seenMp [] = mpNew := rfl

/-- Where a letter with an id is. -/
def idIx (ss : List SentD) (k : ByteArray) : Option Nat := ss.findIdx? (sameId k)
def atMp (ss : List SentD) : Lit → Option Value := fun l => (ss.findIdx? (fun x => l.sameKey (codeLit x.id))).map (fun i => .int .i64 (i : Nat))
theorem atMp_at (ss : List SentD) (k : ByteArray) : atMp ss (codeLit k) = (idIx ss k).map (fun i => .int .i64 (i : Nat)) := by
  unfold atMp idIx
  have : (fun x : SentD => (codeLit k).sameKey (codeLit x.id)) = sameId k := by
    funext x
    rw [sameKey_code]; rfl
  rw [this]
theorem atMp_nil : atMp [] = mpNew := rfl
theorem atMp_snoc (ss : List SentD) (s : SentD) (h : ss.any (sameId s.id) = false) : mpSet (atMp ss) (codeLit s.id) (.int .i64 (ss.length : Nat)) = atMp (ss ++ [s]) := by
  funext l
  unfold mpSet
  by_cases e : l.sameKey (codeLit s.id) = true
  · have e2 := WideAt.sameKey_eq e
    subst e2
    rw [if_pos e, atMp_at]
    unfold idIx
    rw [List.findIdx?_append]
    have h1 : ss.findIdx? (sameId s.id) = none := by
      rw [List.findIdx?_eq_none_iff]
      intro x hx
      exact List.any_eq_false.1 h x hx |> fun h => by simpa using h
    have h2 : sameId s.id s = true := by simp [sameId]
    rw [h1]
    simp [List.findIdx?_cons, h2]
  · rw [if_neg e]
    have e' : l.sameKey (codeLit s.id) = false := by simpa using e
    unfold atMp
    rw [List.findIdx?_append]
    simp [List.findIdx?_cons, e']
theorem idIx_lt {ss : List SentD} {k : ByteArray} {i : Nat} (h : idIx ss k = some i) : i < ss.length := by
  unfold idIx at h
  exact (List.findIdx?_eq_some_iff_getElem.1 h).1
def atOf (ss : List SentD) (i : Nat) : Int := match ss[i]? with | some s => s.at_ | none => 0
theorem atOf_eq {ss : List SentD} {i : Nat} (h : i < ss.length) : atOf ss i = ss[i].at_ := by
  unfold atOf
  rw [List.getElem?_eq_getElem h]
/-- What is wrong with an act. -/
def actErr (ss : List SentD) (a : ActD) : Int := match idIx ss a.sent with
  | none => 8
  | some i => if ¬ (1 ≤ a.kind ∧ a.kind ≤ 4) then 4 else if ¬ (0 ≤ a.at_ ∧ a.at_ ≤ 4321439) then 1 else if a.at_ < atOf ss i then 7 else 0
def actAt (ss : List SentD) (ac : List ActD) (i : Nat) : Int := match ac[i]? with | none => 0 | some a => actErr ss a
theorem actAt_eq {ss : List SentD} {ac : List ActD} {i : Nat} (h : i < ac.length) : actAt ss ac i = actErr ss ac[i] := by
  unfold actAt
  rw [List.getElem?_eq_getElem h]
/-- The error of Steps. -/
def StErr (ss : List SentD) (ac : List ActD) (e : Int) : Prop := (e ≠ 0 ∧ IsErr (sentAt ss) ss.length e) ∨ (IsErr (sentAt ss) ss.length 0 ∧ IsErr (actAt ss ac) ac.length e)
theorem StErr.one {ss : List SentD} {ac : List ActD} {e e' : Int} (h : StErr ss ac e) (h' : StErr ss ac e') : e = e' := by
  rcases h with ⟨h0, h⟩ | ⟨h, h2⟩
  · rcases h' with ⟨_, h'⟩ | ⟨h', _⟩
    · exact h.one h'
    · exact absurd (h.one h') h0
  · rcases h' with ⟨h0', h'⟩ | ⟨_, h2'⟩
    · exact absurd (h'.one h) h0'
    · exact h2.one h2'
/-- Who did what with the i-th letter within a span. -/
def didB (ss : List SentD) (ac : List ActD) (span : Int) (i : Nat) (k : Nat) : Bool := ac.any (fun a => (idIx ss a.sent == some i) && (a.kind == (k : Int)) && decide (a.at_ - atOf ss i ≤ span))
theorem didB_mono {ss : List SentD} {ac : List ActD} {s s' : Int} (h : s ≤ s') {i k : Nat} (hd : didB ss ac s i k = true) : didB ss ac s' i k = true := by
  unfold didB at hd ⊢
  rw [List.any_eq_true] at hd ⊢
  obtain ⟨a, ha, hb⟩ := hd
  refine ⟨a, ha, ?_⟩
  simp only [Bool.and_eq_true, decide_eq_true_eq] at hb ⊢
  exact ⟨hb.1, by omega⟩
def letB (ss : List SentD) (k : List UInt8) (i : Nat) : Bool := match ss[i]? with | some s => s.letter.data.toList == k | none => false
def opB (d : Nat → Nat → Bool) (i : Nat) : Bool := d i 1 || (d i 2 || d i 3)
def clB (d : Nat → Nat → Bool) (i : Nat) : Bool := d i 2 || d i 3
def ct (n : Nat) (p : Nat → Bool) : Nat := (List.range n).countP p
theorem ct_succ (n : Nat) (p : Nat → Bool) : ct (n + 1) p = ct n p + (if p n then 1 else 0) := by
  unfold ct
  rw [List.range_succ, List.countP_append, List.countP_singleton]
theorem ct_le (n : Nat) (p : Nat → Bool) : ct n p ≤ n := by
  have := List.countP_le_length (p := p) (l := List.range n)
  simpa [ct] using this
theorem ct_mono {n : Nat} {p q : Nat → Bool} (h : ∀ i, p i = true → q i = true) : ct n p ≤ ct n q := by
  unfold ct
  exact List.countP_mono_left (fun x _ => h x)
/-- A letter's row after n letters. -/
def rowN (ss : List SentD) (d : Nat → Nat → Bool) (k : List UInt8) (n : Nat) : RowD :=
  ⟨k, ct n (letB ss k), ct n (fun i => letB ss k i && opB d i), ct n (fun i => letB ss k i && clB d i), ct n (fun i => letB ss k i && d i 3), ct n (fun i => letB ss k i && d i 4)⟩
def stepRow (r : RowD) (b1 b2 b3 b4 : Bool) : RowD := ⟨r.letter, r.sent + 1, r.opened + (if b1 || (b2 || b3) then 1 else 0), r.clicked + (if b2 || b3 then 1 else 0), r.bought + (if b3 then 1 else 0), r.left + (if b4 then 1 else 0)⟩
theorem rowN_yes {ss : List SentD} {d : Nat → Nat → Bool} {k : List UInt8} {n : Nat} (h : letB ss k n = true) : rowN ss d k (n + 1) = stepRow (rowN ss d k n) (d n 1) (d n 2) (d n 3) (d n 4) := by
  unfold rowN stepRow
  simp only [ct_succ, h, Bool.true_and, if_true]
  rfl
theorem rowN_no {ss : List SentD} {d : Nat → Nat → Bool} {k : List UInt8} {n : Nat} (h : letB ss k n = false) : rowN ss d k (n + 1) = rowN ss d k n := by
  unfold rowN
  simp only [ct_succ, h, Bool.false_and, Bool.false_eq_true, if_false, Nat.add_zero]
theorem row_falls (ss : List SentD) (d : Nat → Nat → Bool) (k : List UInt8) (n : Nat) : (rowN ss d k n).opened ≤ (rowN ss d k n).sent ∧ (rowN ss d k n).clicked ≤ (rowN ss d k n).opened ∧ (rowN ss d k n).bought ≤ (rowN ss d k n).clicked ∧ (rowN ss d k n).left ≤ (rowN ss d k n).sent := by
  refine ⟨ct_mono fun i h => ?_, ct_mono fun i h => ?_, ct_mono fun i h => ?_, ct_mono fun i h => ?_⟩
  · simp only [Bool.and_eq_true] at h; exact h.1
  · simp only [Bool.and_eq_true, clB, opB, Bool.or_eq_true] at h ⊢; exact ⟨h.1, Or.inr h.2⟩
  · simp only [Bool.and_eq_true, clB, Bool.or_eq_true] at h ⊢; exact ⟨h.1, Or.inr h.2⟩
  · simp only [Bool.and_eq_true] at h; exact h.1
theorem row_grows {ss : List SentD} {d d' : Nat → Nat → Bool} (h : ∀ i k, d i k = true → d' i k = true) (k : List UInt8) (n : Nat) : (rowN ss d k n).sent = (rowN ss d' k n).sent ∧ (rowN ss d k n).opened ≤ (rowN ss d' k n).opened ∧ (rowN ss d k n).clicked ≤ (rowN ss d' k n).clicked ∧ (rowN ss d k n).bought ≤ (rowN ss d' k n).bought ∧ (rowN ss d k n).left ≤ (rowN ss d' k n).left := by
  refine ⟨rfl, ct_mono fun i hi => ?_, ct_mono fun i hi => ?_, ct_mono fun i hi => ?_, ct_mono fun i hi => ?_⟩
  · simp only [Bool.and_eq_true, opB, Bool.or_eq_true] at hi ⊢
    exact ⟨hi.1, hi.2.elim (fun x => Or.inl (h _ _ x)) (fun x => Or.inr (x.elim (fun y => Or.inl (h _ _ y)) (fun y => Or.inr (h _ _ y))))⟩
  · simp only [Bool.and_eq_true, clB, Bool.or_eq_true] at hi ⊢
    exact ⟨hi.1, hi.2.elim (fun x => Or.inl (h _ _ x)) (fun x => Or.inr (h _ _ x))⟩
  · simp only [Bool.and_eq_true] at hi ⊢
    exact ⟨hi.1, h _ _ hi.2⟩
  · simp only [Bool.and_eq_true] at hi ⊢
    exact ⟨hi.1, h _ _ hi.2⟩
/-- The letters, each once, ac they first came. -/
def lets (ss : List SentD) : Nat → List (List UInt8)
  | 0 => []
  | n + 1 => match ss[n]? with | none => lets ss n | some s => if (lets ss n).contains s.letter.data.toList then lets ss n else lets ss n ++ [s.letter.data.toList]
theorem lets_nodup (ss : List SentD) (n : Nat) : (lets ss n).Nodup := by
  induction n with
  | zero => exact List.nodup_nil
  | succ n ih =>
    unfold lets
    split
    · exact ih
    · split
      · exact ih
      · rename_i s _ h
        rw [List.nodup_append]
        refine ⟨ih, by simp, ?_⟩
        intro a ha b hb
        simp at hb
        rintro rfl
        rw [hb] at ha
        exact h (by simpa using ha)
theorem rowN_new {ss : List SentD} {d : Nat → Nat → Bool} {k : List UInt8} {n : Nat} (h : ¬ k ∈ lets ss n) : rowN ss d k n = ⟨k, 0, 0, 0, 0, 0⟩ := by
  induction n with
  | zero => rfl
  | succ n ih =>
    have h1 : ¬ k ∈ lets ss n := by
      intro c
      apply h
      unfold lets
      split
      · exact c
      · split
        · exact c
        · exact List.mem_append_left _ c
    have h2 : letB ss k n = false := by
      unfold letB
      cases e : ss[n]? with
      | none => rfl
      | some s =>
        simp only
        cases e2 : (s.letter.data.toList == k) with
        | false => rfl
        | true =>
          exfalso
          apply h
          have e3 : s.letter.data.toList = k := by simpa using e2
          unfold lets
          rw [e]
          simp only
          split
          · rename_i hc
            rw [e3] at hc
            simpa using hc
          · rw [e3]; simp
    rw [rowN_no h2]
    exact ih h1
end Go.Proofs.Ytecbejmeejepmaa
