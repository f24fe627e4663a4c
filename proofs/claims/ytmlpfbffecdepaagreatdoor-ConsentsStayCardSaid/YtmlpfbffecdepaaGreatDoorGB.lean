/- Texts of this claim, put together: ConsP, IdP, Bsf, BsfPur, BsfTer, BsfSta, Cellw, ConsC, ConsC2, ConsC3, ConsA, ConsA2, Clr, IG. -/
import Derived.Test.YtmlpfbffecdepaaGreatDoorGA
import Derived.Lib.Split
import Derived.IntWalk
import Derived.StillTailTactics
import Derived.Deep.Cut
import Derived.Laws.IdiomCopy
import Derived.Laws.AppendOwn
/- Consents, in plain words: policies, statements, answers. -/
namespace Go.Proofs.YtmlpfbffecdepaaGreatDoor
set_option linter.unusedVariables false
open Go.RowKit

structure StD where
  no : Int
  at_ : Int
  kind : Int
  text : ByteArray
  purp : ByteArray
  region : ByteArray
  ch : Int
  what : Int
def fSt (d : StD) : Nat → Value
  | 0 => .int .i64 d.no
  | 1 => .int .i64 d.at_
  | 2 => .int .i64 d.kind
  | 3 => .string d.text
  | 4 => .string d.purp
  | 5 => .string d.region
  | 6 => .int .i64 d.ch
  | _ => .int .i64 d.what
def zeroSt : StD := ⟨0, 0, 0, ⟨#[]⟩, ⟨#[]⟩, ⟨#[]⟩, 0, 0⟩
structure TermD where
  region : ByteArray
  ch : Int
  free : Bool
  days : Int
  wait : Int
def fTe (d : TermD) : Nat → Value
  | 0 => .string d.region
  | 1 => .int .i64 d.ch
  | 2 => .bool d.free
  | 3 => .int .i64 d.days
  | _ => .int .i64 d.wait
def zeroTe : TermD := ⟨⟨#[]⟩, 0, false, 0, 0⟩
structure PurD where
  name : ByteArray
  adr : Option Addr
  cap : Nat
  terms : List TermD
def fPu (d : PurD) : Nat → Value
  | 0 => .string d.name
  | _ => .slice d.adr d.terms.length d.cap
structure AnsD where
  may : Bool
  why : Int
  no : Int
def ansV (a : AnsD) : Value := .agg #[.bool a.may, .int .i64 a.why, .int .i64 a.no]

def eqS (a b : ByteArray) : Bool := a.toList == b.toList
theorem eqS_iff {a b : ByteArray} : eqS a b = true ↔ a = b := by
  unfold eqS
  rw [beq_iff_eq]
  exact ⟨toList_inj, fun h => by rw [h]⟩
theorem eqS_self (a : ByteArray) : eqS a a = true := eqS_iff.2 rfl
/-- The first of two orders, then the second. -/
def orI (a b : Int) : Int := if a = 0 then b else a
theorem orL_two (a b : Int) : orL [a, b] = orI a b := by
  unfold orI orL orL orL
  split
  · split <;> omega
  · rfl

/-- The error of the first of n checks that fails. -/
def fstErr (f : Nat → Int) : Nat → Int
  | 0 => 0
  | n + 1 => if fstErr f n = 0 then f n else fstErr f n
theorem fstErr_zero {f : Nat → Int} {n : Nat} : fstErr f n = 0 ↔ ∀ i, i < n → f i = 0 := by
  induction n with
  | zero => simp [fstErr]
  | succ n ih =>
    unfold fstErr
    constructor
    · intro h
      by_cases e : fstErr f n = 0
      · rw [if_pos e] at h
        intro i hi
        by_cases c : i = n
        · rw [c]; exact h
        · exact ih.1 e i (by omega)
      · rw [if_neg e] at h; exact absurd h e
    · intro h
      rw [if_pos (ih.2 fun i hi => h i (by omega))]
      exact h n (by omega)
theorem fstErr_bad {f : Nat → Int} {n i : Nat} (hi : i < n) (h0 : fstErr f i = 0) (he : f i ≠ 0) : fstErr f n = f i := by
  induction n with
  | zero => omega
  | succ n ih =>
    unfold fstErr
    by_cases c : i = n
    · subst c; rw [if_pos h0]
    · rw [ih (by omega), if_neg he]
theorem fstErr_next {f : Nat → Int} {i : Nat} (h0 : fstErr f i = 0) (he : f i = 0) : fstErr f (i + 1) = 0 := by
  unfold fstErr; rw [if_pos h0]; exact he
theorem fstErr_mem {f : Nat → Int} {n : Nat} (P : Int → Prop) (h0 : P 0) (h : ∀ i, i < n → P (f i)) : P (fstErr f n) := by
  induction n with
  | zero => exact h0
  | succ n ih =>
    unfold fstErr
    split
    · exact h n (by omega)
    · exact ih fun i hi => h i (by omega)

def chB (n : Int) : Bool := decide (1 ≤ n) && decide (n ≤ 4)
def ofCh (what : Int) : Bool := decide (what = 4) || decide (what = 5)
/-- Order of terms. -/
def teCmp (a b : TermD) : Int := orI (cmpS a.region b.region) (cmpI a.ch b.ch)
def teErr (ts : List TermD) (i : Nat) : Int := match ts[i]? with
  | none => 0
  | some t =>
    if isKey t.region = false then 5 else if chB t.ch = false then 4 else if t.free = true ∧ (t.days ≠ 0 ∨ t.wait ≠ 0) then 3
    else if ¬ (0 ≤ t.days ∧ t.days ≤ 2000 ∧ 0 ≤ t.wait ∧ t.wait ≤ 100000) then 1
    else if 0 < i ∧ 0 ≤ teCmp (ts.getD (i - 1) zeroTe) t then 7 else 0
def tesErr (ts : List TermD) : Int := if 160 < ts.length then 2 else fstErr (teErr ts) ts.length
def puErr (ps : List PurD) (i : Nat) : Int := match ps[i]? with
  | none => 0
  | some p => if isKey p.name = false then 5 else if 0 < i ∧ 0 ≤ cmpS (ps.getD (i - 1) p).name p.name then 7 else tesErr p.terms
def polErr (ps : List PurD) : Int := if ps.length = 0 then 3 else if 30 < ps.length then 2 else fstErr (puErr ps) ps.length
/-- The purpose with a name; the term. -/
def purF (ps : List PurD) (name : ByteArray) : Option PurD := ps.find? fun p => eqS p.name name
def teF (ts : List TermD) (region : ByteArray) (ch : Int) : Option TermD := ts.find? fun t => eqS t.region region && decide (t.ch = ch)
def termF (ps : List PurD) (purp region : ByteArray) (ch : Int) : Option TermD := match purF ps purp with
  | none => none
  | some p => teF p.terms region ch

/-- By At, then by No. -/
def stCmp (a b : StD) : Int := orI (cmpI a.at_ b.at_) (cmpI a.no b.no)
def stLt (a b : StD) : Bool := decide (stCmp a b < 0)
def ownB (kind : Int) (text : ByteArray) (ch : Int) (s : StD) : Bool := (decide (s.kind = kind) && eqS s.text text) && decide (s.ch = ch)
def saidF (ss : List StD) (kind : Int) (text : ByteArray) (ch : Int) : List StD := isort stLt (ss.filter (ownB kind text ch))
def upTo (l : List StD) (at_ : Int) : List StD := l.takeWhile fun s => decide (s.at_ ≤ at_)

structure ObjD where
  no : Int
  last : Int
  is : Bool
def objStep (s : ObjD) (x : StD) : ObjD :=
  if ofCh x.what = false then s else
  let s1 := if s.last < x.at_ then ⟨0, x.at_, false⟩ else s
  if x.what = 4 ∧ s1.is = false then ⟨x.no, s1.last, true⟩ else s1
def objF (l : List StD) : ObjD := l.foldl objStep ⟨0, -1, false⟩
/-- The last withdrawal of a purpose. -/
def wdStep (purp : ByteArray) (w : Option StD) (s : StD) : Option StD :=
  if s.what = 3 ∧ eqS s.purp purp = true ∧ (w.isNone = true ∨ (w.getD zeroSt).at_ < s.at_) then some s else w
def wdF (purp : ByteArray) (l : List StD) : Option StD := l.foldl (wdStep purp) none
def grB (purp : ByteArray) (w : Option StD) (s : StD) : Bool := decide (s.what = 1) && eqS s.purp purp && (w.isNone || decide ((w.getD zeroSt).at_ < s.at_))
def grF (purp : ByteArray) (l : List StD) : List StD := l.filter (grB purp (wdF purp l))
def coB (purp : ByteArray) (from_ to : Int) (s : StD) : Bool := decide (s.what = 2) && eqS s.purp purp && (decide (from_ ≤ s.at_) && decide (s.at_ ≤ to))
def coF (purp : ByteArray) (from_ to : Int) (l : List StD) : Option StD := l.find? (coB purp from_ to)
/-- The state of a grant, as a reason. -/
def stateF (l : List StD) (t : TermD) (g : StD) (at_ : Int) : Int :=
  if t.days ≠ 0 ∧ g.at_ + t.days * 1440 ≤ at_ then 7 else if t.wait = 0 then 2 else if (coF g.purp g.at_ (g.at_ + t.wait) l).isSome = true then 2
  else if at_ ≤ g.at_ + t.wait then 8 else 9
def rankF (why : Int) : Int := if why = 2 then 0 else if why = 8 then 1 else if why = 9 then 2 else if why = 7 then 3 else -1
structure BestD where
  why : Int
  at_ : Int
  no : Int
def bestStep (l : List StD) (t : TermD) (at_ : Int) (b : BestD) (g : StD) : BestD :=
  if b.why = 0 ∨ rankF (stateF l t g at_) < rankF b.why ∨ (stateF l t g at_ = b.why ∧ b.at_ < g.at_) then ⟨stateF l t g at_, g.at_, g.no⟩ else b
def bestF (l : List StD) (t : TermD) (at_ : Int) (gs : List StD) : BestD := gs.foldl (bestStep l t at_) ⟨0, 0, 0⟩
/-- The answer without objections. -/
def allowF (l : List StD) (t : TermD) (purp : ByteArray) (at_ : Int) : AnsD :=
  if (wdF purp l).isSome = true ∧ (grF purp l).length = 0 then ⟨false, 5, ((wdF purp l).getD zeroSt).no⟩
  else if t.free = true then ⟨true, 1, 0⟩
  else if (grF purp l).length = 0 then ⟨false, 4, 0⟩
  else ⟨decide ((bestF l t at_ (grF purp l)).why = 2), (bestF l t at_ (grF purp l)).why, (bestF l t at_ (grF purp l)).no⟩
def answerF (t : Option TermD) (purp : ByteArray) (said : List StD) (at_ : Int) : AnsD :=
  match t with
  | none => ⟨false, 3, 0⟩
  | some t => if (objF (upTo said at_)).is = true then ⟨false, 6, (objF (upTo said at_)).no⟩ else allowF (upTo said at_) t purp at_
structure QueD where
  kind : Int
  text : ByteArray
  purp : ByteArray
  region : ByteArray
  ch : Int
  at_ : Int
def askF (ps : List PurD) (ss : List StD) (kind : Int) (text purp region : ByteArray) (ch at_ : Int) : AnsD := answerF (termF ps purp region ch) purp (saidF ss kind text ch) at_
/-- What is wrong with statements. -/
def stErr (idE : Int → ByteArray → Int) (ps : List PurD) (ss : List StD) (i : Nat) : Int := match ss[i]? with
  | none => 0
  | some s =>
    if ¬ (1 ≤ s.no ∧ s.no ≤ 1000000) then 1 else if 0 < i ∧ s.no ≤ (ss.getD (i - 1) s).no then 7 else if ¬ (0 ≤ s.at_ ∧ s.at_ ≤ 4321439) then 1
    else if idE s.kind s.text ≠ 0 then idE s.kind s.text
    else if ¬ (chB s.ch = true ∧ 1 ≤ s.what ∧ s.what ≤ 5) then 4
    else if ofCh s.what = true ∧ ¬ s.purp.size = 0 then 3 else if ofCh s.what = false ∧ (purF ps s.purp).isNone = true then 8
    else if isKey s.region = false then 5 else 0
def sayErr (idE : Int → ByteArray → Int) (ps : List PurD) (ss : List StD) : Int :=
  if polErr ps ≠ 0 then polErr ps else if 3000 < ss.length then 2 else fstErr (stErr idE ps ss) ss.length
/-- What is wrong with a question. -/
def queErr (ps : List PurD) (purp region : ByteArray) (ch at_ : Int) : Int :=
  if (purF ps purp).isNone = true then 8 else if isKey region = false then 5 else if chB ch = false then 4 else if ¬ (0 ≤ at_ ∧ at_ ≤ 4321439) then 1 else 0
def mayErr (idE : Int → ByteArray → Int) (ps : List PurD) (ss : List StD) (q : QueD) : Int :=
  if sayErr idE ps ss ≠ 0 then sayErr idE ps ss else if idE q.kind q.text ≠ 0 then idE q.kind q.text else queErr ps q.purp q.region q.ch q.at_

/- Laws. -/
theorem stCmp_swap (a b : StD) : stCmp b a = - stCmp a b := by
  unfold stCmp orI
  rw [cmpI_swap a.at_ b.at_, cmpI_swap a.no b.no]
  split <;> split <;> omega
theorem stLt_iff {a b : StD} : stLt a b = true ↔ a.at_ < b.at_ ∨ (a.at_ = b.at_ ∧ a.no < b.no) := by
  unfold stLt stCmp orI
  rw [decide_eq_true_iff]
  by_cases h : cmpI a.at_ b.at_ = 0
  · rw [if_pos h, cmpI_lt]
    have := cmpI_zero.1 h
    omega
  · rw [if_neg h, cmpI_lt]
    have : ¬ a.at_ = b.at_ := fun e => h (cmpI_zero.2 e)
    omega
theorem stLt_false {a b : StD} : stLt a b = false ↔ b.at_ < a.at_ ∨ (a.at_ = b.at_ ∧ b.no ≤ a.no) := by
  rw [← Bool.not_eq_true, stLt_iff]; omega
theorem stLt_asymm (a b : StD) (h : stLt a b = true) : stLt b a = false := by
  rw [stLt_iff] at h; rw [stLt_false]; omega
theorem stLt_trans (a b c : StD) (h1 : stLt b a = false) (h2 : stLt c b = false) : stLt c a = false := by
  rw [stLt_false] at *; omega
theorem saidF_sorted (ss : List StD) (kind : Int) (text : ByteArray) (ch : Int) : (saidF ss kind text ch).Pairwise fun a b => stLt b a = false := isort_sorted stLt_asymm stLt_trans _
theorem saidF_at (ss : List StD) (kind : Int) (text : ByteArray) (ch : Int) : (saidF ss kind text ch).Pairwise fun a b => a.at_ ≤ b.at_ := (saidF_sorted ss kind text ch).imp fun h => by rw [stLt_false] at h; omega
theorem upTo_filter {l : List StD} (h : l.Pairwise fun a b => a.at_ ≤ b.at_) (at_ : Int) : upTo l at_ = l.filter fun s => decide (s.at_ ≤ at_) := by
  unfold upTo
  induction l with
  | nil => rfl
  | cons x l ih =>
    rw [List.pairwise_cons] at h
    by_cases hx : x.at_ ≤ at_
    · simp [hx, ih h.2]
    · have : l.filter (fun s => decide (s.at_ ≤ at_)) = [] := by
        rw [List.filter_eq_nil_iff]
        intro y hy
        have := h.1 y hy
        simp; omega
      simp [hx, this]
/-- Sorting and leaving out commute, where the leaving out is by the sort's order. -/
theorem insLast_filter {p : StD → Bool} {x : StD} {acc : List StD} (hs : acc.Pairwise fun a b => stLt b a = false) (hp : p x = true) : (insLast stLt x acc).filter p = insLast stLt x (acc.filter p) := by
  have e : (acc.reverse.dropWhile (stLt x)).reverse ++ (acc.reverse.takeWhile (stLt x)).reverse = acc := by
    rw [← List.reverse_append, List.takeWhile_append_dropWhile, List.reverse_reverse]
  have hS : ∀ s ∈ (acc.reverse.takeWhile (stLt x)).reverse, stLt x s = true := fun s hs => by
    have : s ∈ acc.reverse.takeWhile (stLt x) := by simpa using hs
    exact List.all_eq_true.1 List.all_takeWhile _ this
  have hP : ∀ y, (acc.reverse.dropWhile (stLt x)).head? = some y → stLt x y = false := fun y hy => by
    have := List.head?_dropWhile_not (stLt x) acc.reverse
    rw [hy] at this
    simpa using this
  have hP2 : ∀ y ∈ (acc.reverse.dropWhile (stLt x)).reverse, stLt x y = false := by
    intro y hy
    rw [← e, List.pairwise_append] at hs
    generalize acc.reverse.dropWhile (stLt x) = Q at hP hs hy
    cases Q with
    | nil => simp at hy
    | cons z Q =>
      have hz := hP z rfl
      rcases List.mem_cons.1 (List.mem_reverse.1 hy) with rfl | hq
      · exact hz
      · have h4 : stLt z y = false := by
          have h1 := hs.1
          rw [List.reverse_cons, List.pairwise_append] at h1
          exact h1.2.2 y (by simpa using hq) z (by simp)
        exact stLt_trans y z x h4 hz
  have e1 : insLast stLt x acc = (acc.reverse.dropWhile (stLt x)).reverse ++ x :: (acc.reverse.takeWhile (stLt x)).reverse := rfl
  have e2 : acc.filter p = ((acc.reverse.dropWhile (stLt x)).reverse).filter p ++ ((acc.reverse.takeWhile (stLt x)).reverse).filter p := by rw [← List.filter_append, e]
  rw [e1, e2, List.filter_append, List.filter_cons, if_pos hp]
  rw [insLast_eq]
  · intro s hs'
    exact hS s ((List.mem_filter.1 hs').1)
  · intro c
    cases hl : (((acc.reverse.dropWhile (stLt x)).reverse).filter p).getLast? with
    | none => rw [hl] at c; cases c
    | some y =>
      rw [hl] at c
      have hy := List.mem_of_getLast? hl
      have := hP2 y (List.mem_filter.1 hy).1
      simp [this] at c
theorem insLast_filter_no {p : StD → Bool} {x : StD} {acc : List StD} (hp : p x = false) : (insLast stLt x acc).filter p = acc.filter p := by
  have e : (acc.reverse.dropWhile (stLt x)).reverse ++ (acc.reverse.takeWhile (stLt x)).reverse = acc := by
    rw [← List.reverse_append, List.takeWhile_append_dropWhile, List.reverse_reverse]
  have e1 : insLast stLt x acc = (acc.reverse.dropWhile (stLt x)).reverse ++ x :: (acc.reverse.takeWhile (stLt x)).reverse := rfl
  have e2 : acc.filter p = ((acc.reverse.dropWhile (stLt x)).reverse).filter p ++ ((acc.reverse.takeWhile (stLt x)).reverse).filter p := by rw [← List.filter_append, e]
  rw [e1, e2, List.filter_append, List.filter_cons, if_neg (by simp [hp])]
theorem isort_filter (p : StD → Bool) (ds : List StD) : (isort stLt ds).filter p = isort stLt (ds.filter p) := by
  have : ∀ (n : Nat) (ds : List StD), ds.length = n → (isort stLt ds).filter p = isort stLt (ds.filter p) := by
    intro n
    induction n with
    | zero =>
      intro ds h
      rw [List.eq_nil_of_length_eq_zero h]; rfl
    | succ n ih =>
      intro ds h
      rcases nil_or_snoc ds with rfl | ⟨L, b, rfl⟩
      · simp at h
      · have hL : L.length = n := by simpa using h
        rw [isort_snoc, List.filter_append]
        cases hb : p b with
        | true =>
          rw [insLast_filter (isort_sorted stLt_asymm stLt_trans _) hb, ih L hL]
          simp [hb, isort_snoc]
        | false =>
          rw [insLast_filter_no hb, ih L hL]
          simp [hb]
  exact this _ ds rfl
/-- What is said later changes no answer. -/
theorem askF_back (ps : List PurD) (ss : List StD) (kind : Int) (text purp region : ByteArray) (ch at_ : Int) : askF ps (ss.filter fun s => decide (s.at_ ≤ at_)) kind text purp region ch at_ = askF ps ss kind text purp region ch at_ := by
  have h : upTo (saidF (ss.filter fun s => decide (s.at_ ≤ at_)) kind text ch) at_ = upTo (saidF ss kind text ch) at_ := by
    rw [upTo_filter (saidF_at _ _ _ _), upTo_filter (saidF_at _ _ _ _)]
    unfold saidF
    rw [isort_filter, isort_filter, List.filter_filter, List.filter_filter, List.filter_filter]
    congr 1
    apply List.filter_congr
    intro s _
    cases ownB kind text ch s <;> cases decide (s.at_ ≤ at_) <;> rfl
  unfold askF answerF
  rw [h]
end Go.Proofs.YtmlpfbffecdepaaGreatDoor

/- Ids, in plain words: which are right. -/
namespace Go.Proofs.YtmlpfbffecdepaaGreatDoor
set_option linter.unusedVariables false
open Go.RowKit

def capB (c : UInt8) : Bool := decide ((65 : Int) ≤ c.toNat) && decide ((c.toNat : Int) ≤ 90)
def labC (c : UInt8) : Bool := smallB c || digitB c || ((c.toNat : Int) == 45)
def mailC (c : UInt8) : Bool := smallB c || digitB c || ((c.toNat : Int) == 46) || ((c.toNat : Int) == 45) || ((c.toNat : Int) == 95)
def memC (c : UInt8) : Bool := digitB c || capB c
def devC (c : UInt8) : Bool := digitB c || (decide ((97 : Int) ≤ c.toNat) && decide ((c.toNat : Int) ≤ 102))
/-- The i-th byte, as a number. -/
def byteAt (s : ByteArray) (i : Nat) : Int := ((s.data.toList.getD i 0).toNat : Int)
def labelF (s : ByteArray) : Bool :=
  if ¬ (1 ≤ s.size ∧ s.size ≤ 30) then false else if byteAt s 0 = 45 then false else if byteAt s (s.size - 1) = 45 then false else allB labC s
def atB : ByteArray := ⟨#[64]⟩
def dotB : ByteArray := ⟨#[46]⟩
def localF (s : ByteArray) : ByteArray := ⟨(Lib.cut s.data.toList [64]).1.toArray⟩
def domainF (s : ByteArray) : ByteArray := ⟨(Lib.cut s.data.toList [64]).2.1.toArray⟩
def labelsF (s : ByteArray) : List ByteArray := Lib.splitB dotB 0 (Lib.countB s dotB) s
def mailF (s : ByteArray) : Bool :=
  if (Lib.cut s.data.toList [64]).2.2 = false then false else if 80 < s.size then false else if ¬ (1 ≤ (localF s).size ∧ (localF s).size ≤ 64) then false
  else if byteAt (localF s) 0 = 46 then false else if byteAt (localF s) ((localF s).size - 1) = 46 then false else if Lib.contains (localF s).data.toList [46, 46] = true then false
  else if allB mailC (localF s) = false then false else if (labelsF (domainF s)).all labelF = false then false else decide (2 ≤ (labelsF (domainF s)).length)
def phoneF (s : ByteArray) : Bool :=
  if Lib.hasPrefix s.data.toList [43] = false then false else if ¬ (8 ≤ s.size ∧ s.size ≤ 16) then false else if allB digitB (s.extract 1 s.size) = false then false else decide (byteAt s 1 ≠ 48)
def memberF (s : ByteArray) : Bool := decide (4 ≤ s.size ∧ s.size ≤ 20) && allB memC s
def deviceF (s : ByteArray) : Bool := decide (s.size = 32) && allB devC s
def signs : List UInt8 := [48, 49, 50, 51, 52, 53, 54, 55, 56, 57, 65, 66, 67, 68, 69, 70, 71, 72, 73, 74, 75, 76, 77, 78, 79, 80, 81, 82, 83, 84, 85, 86, 87, 88, 89, 90]
/-- The sum of the last n signs, and the next weight. -/
def signSum (l : List UInt8) : Nat → Int × Int
  | 0 => (0, 2)
  | n + 1 => ((signSum l n).1 + (signSum l n).2 * Lib.indexByte signs (l.getD (l.length - 1 - n) 0) / 36 + (signSum l n).2 * Lib.indexByte signs (l.getD (l.length - 1 - n) 0) % 36, 3 - (signSum l n).2)
def signF (s : ByteArray) : Int := ((signs.getD ((36 - (signSum s.data.toList s.size).1 % 36) % 36).toNat 0).toNat : Int)
def idErr (kind : Int) (s : ByteArray) : Int :=
  if kind = 1 then (if mailF s = true then 0 else 3) else if kind = 2 then (if phoneF s = true then 0 else 3)
  else if kind = 3 then (if memberF s = false then 3 else if signF (s.extract 0 (s.size - 1)) ≠ byteAt s (s.size - 1) then 15 else 0)
  else if kind = 4 then (if deviceF s = true then 0 else 3) else 4
theorem idErr_vals (kind : Int) (s : ByteArray) : idErr kind s = 0 ∨ idErr kind s = 3 ∨ idErr kind s = 4 ∨ idErr kind s = 15 := by
  unfold idErr
  split
  · split <;> simp
  · split
    · split <;> simp
    · split
      · split
        · simp
        · split <;> simp
      · split
        · split <;> simp
        · simp
def poolL : List (Int × List UInt8) := [(1, [97, 64, 98, 46, 100, 101]), (1, [97, 110, 110, 46, 98, 64, 120, 45, 121, 46, 111, 114, 103]), (1, [98, 111, 98, 95, 49, 64, 98, 46, 100, 101]), (1, [122, 45, 64, 48, 46, 97]), (2, [43, 52, 57, 51, 48, 49, 50, 51, 52, 53, 54]), (2, [43, 49, 53, 53, 53, 48, 48, 48, 49, 49, 49]), (3, [65, 66, 49, 51]), (3, [48, 48, 48, 48, 48, 48, 48, 48, 48, 48, 48, 48, 48, 48, 48, 48, 48, 48, 48, 48]), (4, [48, 49, 50, 51, 52, 53, 54, 55, 56, 57, 97, 98, 99, 100, 101, 102, 48, 49, 50, 51, 52, 53, 54, 55, 56, 57, 97, 98, 99, 100, 101, 102]), (4, [102, 102, 102, 102, 102, 102, 102, 102, 102, 102, 102, 102, 102, 102, 102, 102, 102, 102, 102, 102, 102, 102, 102, 102, 102, 102, 102, 102, 102, 102, 102, 102])]
theorem pool_right : poolL.all (fun x => idErr x.1 ⟨x.2.toArray⟩ == 0) = true := by decide +kernel
end Go.Proofs.YtmlpfbffecdepaaGreatDoor

/- Words for BinarySearchFunc. -/
namespace Go.Proofs.YtmlpfbffecdepaaGreatDoor
set_option linter.unusedVariables false
open Go.RowKit
def hasAt {D : Type} (c : D → Int) (ds : List D) (m : Nat) : Bool := match ds[m]? with | some d => c d == 0 | none => false
theorem hasAt_lt {D : Type} {c : D → Int} {ds : List D} {m : Nat} (h : m < ds.length) : hasAt c ds m = (c ds[m] == 0) := by
  unfold hasAt; rw [List.getElem?_eq_getElem h]
theorem hasAt_ge {D : Type} {c : D → Int} {ds : List D} {m : Nat} (h : ds.length ≤ m) : hasAt c ds m = false := by
  unfold hasAt; rw [List.getElem?_eq_none h]
end Go.Proofs.YtmlpfbffecdepaaGreatDoor

/- BinarySearchFunc at elements of 2 cells. -/
namespace Go.Proofs.YtmlpfbffecdepaaGreatDoor
set_option linter.unusedVariables false
open Go.RowKit

section
variable {D : Type}
set_option maxHeartbeats 1000000 in
theorem bsf_Pur (H : Frz) (f : D → Nat → Value) (kf : Nat) (tv : Value) (c : D → Int) (ds : List D) (hp : ∀ (W : World) (d : D), d ∈ ds → H.In W → Calls Tryz.prog kf #[.agg #[f d 0, f d 1], tv] W fun e W' => e = .returned (.int .i64 (c d)) ∧ Below W.heap.size W W')
    (hcall : ∀ (a b : Value) (W : World), (callFunc kf #[a, b]).run Tryz.prog W = .ok (.enter kf #[a, b]) W)
    (A : Option Addr) (cap : Nat) (w : World) (hH : H.In w) (hR : Rw H A 2 f ds) (hl : ds.length ≤ 1000000) (m : Nat) (hm : m ≤ ds.length) (hlo : ∀ i (h : i < ds.length), i < m → c ds[i] < 0) (hhi : ∀ i (h : i < ds.length), m ≤ i → 0 ≤ c ds[i]) :
    Calls Tryz.prog 92 #[.slice A ds.length cap, tv, .func (.func kf) #[] #[]] w fun e w' => e = .returned (.tuple #[.int .i64 m, .bool (hasAt c ds m)]) ∧ Below w.heap.size w w' := by
  have HP := Lib.hid hp
  have HR := Lib.hid hR
  have HH := Lib.hid hH
  have HLO := Lib.hid hlo
  have HHI := Lib.hid hhi
  clear hp hR hH hlo hhi
  go_enter Tryz.func92, Tryz.ntmps92
  go_wp2_with fail
  go_loopw [9, 10, 11] (fun ti tj _ wr => ∃ i j : Nat, i ≤ m ∧ m ≤ j ∧ j ≤ ds.length ∧ ti = .int .i64 i ∧ tj = .int .i64 j ∧ Hid (Below w.heap.size w wr)) (fun ti tj _ _ => (intOf tj - intOf ti).toNat)
  case atStart => exact ⟨0, ds.length, by omega, by omega, by omega, rfl, rfl, Below.refl _ _⟩
  case round =>
    obtain ⟨i, j, hi, hj, hjl, rfl, rfl, hb⟩ := hrel
    by_cases hlt : i < j
    · have e1 : IntKind.i64.wrap ((i : Int) + (j : Int)) = (i : Int) + (j : Int) := IntWalk.i64_in _ (by omega)
      obtain ⟨h, hh⟩ : ∃ h, h = (i + j) / 2 := ⟨_, rfl⟩
      have hhl : h < ds.length := by omega
      have hih : i ≤ h := by omega
      have hhj : h < j := by omega
      have k2 : ((i : Int) + (j : Int)) / 2 = (h : Int) := by omega
      obtain ⟨b, off, rfl, hbl, hc⟩ := HR.out.at_ (HH.out.below hb.out) hhl (by omega)
      have c0 : wr.cell? ⟨b, off + h * 2, none⟩ = some (f ds[h] 0) := hc 0 (by omega)
      have c1 : wr.cell? ⟨b, off + h * 2 + 1, none⟩ = some (f ds[h] 1) := hc 1 (by omega)
      have HC := Lib.hid (fun W hW => HP.out W ds[h] (List.getElem_mem hhl) hW)
      have HL := Lib.hid (HLO.out h hhl)
      have HU := Lib.hid (HHI.out h hhl)
      clear hc hh
      generalize hpd : c ds[h] = q at HC HL HU
      generalize f ds[h] 0 = x0 at c0 HC
      generalize f ds[h] 1 = x1 at c1 HC
      clear hpd
      go_wp2_with fail
      refine (HC.out _ (HH.out.below hb.out)).mono ?_
      rintro e w1 ⟨rfl, hb1⟩
      have hb2 := Lib.hid (hb.out.trans (hb1.mono hb.out.size))
      clear hb1 hb k2
      by_cases hq : q < 0
      · have hhm : h < m := by
          apply Classical.byContradiction
          intro hn
          have := HU.out (by omega)
          omega
        go_wp2_with fail
        go_roundw
        case rel => exact ⟨h + 1, j, by omega, by omega, by omega, by go_num, rfl, hb2⟩
        case measure => simp [intOf]; omega
      · have hhm : m ≤ h := by
          apply Classical.byContradiction
          intro hn
          exact hq (HL.out (by omega))
        go_wp2_with fail
        go_roundw
        case rel => exact ⟨i, h, by omega, by omega, by omega, rfl, rfl, hb2⟩
        case measure => simp [intOf]; omega
    · have him : i = m := by omega
      subst him
      by_cases hml : i < ds.length
      · have d1 : decide ((i : Int) < (ds.length : Int)) = true := by simpa using hml
        obtain ⟨b, off, rfl, hbl, hc⟩ := HR.out.at_ (HH.out.below hb.out) hml (by omega)
        have c0 : wr.cell? ⟨b, off + i * 2, none⟩ = some (f ds[i] 0) := hc 0 (by omega)
        have c1 : wr.cell? ⟨b, off + i * 2 + 1, none⟩ = some (f ds[i] 1) := hc 1 (by omega)
        have HC := Lib.hid (fun W hW => HP.out W ds[i] (List.getElem_mem hml) hW)
        have HV := Lib.hid (hasAt_lt (c := c) hml)
        clear hc
        generalize hpd : c ds[i] = q at HC HV
        generalize f ds[i] 0 = x0 at c0 HC
        generalize f ds[i] 1 = x1 at c1 HC
        clear hpd
        go_wp2_with fail
        refine (HC.out _ (HH.out.below hb.out)).mono ?_
        rintro e w1 ⟨rfl, hb1⟩
        have hb2 := Lib.hid (hb.out.trans (hb1.mono hb.out.size))
        clear hb1 hb
        go_wp2_with fail
        go_ret2
        exact ⟨by rw [HV.out]; simp, hb2.out⟩
      · have hf := Lib.hid (hasAt_ge (c := c) (show ds.length ≤ i by omega))
        go_wp2_with fail
        go_ret2
        exact ⟨by rw [hf.out]; simp, hb.out⟩
end
end Go.Proofs.YtmlpfbffecdepaaGreatDoor

/- BinarySearchFunc at elements of 5 cells, what is sought in 5 cells. -/
namespace Go.Proofs.YtmlpfbffecdepaaGreatDoor
set_option linter.unusedVariables false
open Go.RowKit

section
variable {D : Type}
set_option maxHeartbeats 2000000 in
set_option maxRecDepth 100000 in
theorem bsf_Ter (H : Frz) (f : D → Nat → Value) (kf : Nat) (tv : Nat → Value) (c : D → Int) (ds : List D) (hp : ∀ (W : World) (d : D), d ∈ ds → H.In W → Calls Tryz.prog kf #[.agg #[f d 0, f d 1, f d 2, f d 3, f d 4], .agg #[tv 0, tv 1, tv 2, tv 3, tv 4]] W fun e W' => e = .returned (.int .i64 (c d)) ∧ Below W.heap.size W W')
    (hcall : ∀ (a b : Value) (W : World), (callFunc kf #[a, b]).run Tryz.prog W = .ok (.enter kf #[a, b]) W)
    (A : Option Addr) (cap : Nat) (w : World) (hH : H.In w) (hR : Rw H A 5 f ds) (hl : ds.length ≤ 1000000) (m : Nat) (hm : m ≤ ds.length) (hlo : ∀ i (h : i < ds.length), i < m → c ds[i] < 0) (hhi : ∀ i (h : i < ds.length), m ≤ i → 0 ≤ c ds[i]) :
    Calls Tryz.prog 106 #[.slice A ds.length cap, .agg #[tv 0, tv 1, tv 2, tv 3, tv 4], .func (.func kf) #[] #[]] w fun e w' => e = .returned (.tuple #[.int .i64 m, .bool (hasAt c ds m)]) ∧ Below w.heap.size w w' := by
  have HP := Lib.hid hp
  have HR := Lib.hid hR
  have HH := Lib.hid hH
  have HLO := Lib.hid hlo
  have HHI := Lib.hid hhi
  have HB0 := Lib.hid ((Below.refl w.heap.size w).alloc (Nat.le_refl _) (.cells #[tv 0, tv 1, tv 2, tv 3, tv 4] 60))
  have HZ0 : Hid (∀ m, m < 5 → (w.alloc (.cells #[tv 0, tv 1, tv 2, tv 3, tv 4] 60)).cell? ⟨w.heap.size, m, none⟩ = some (tv m)) := fun m hm => by
    rw [World.cell?_alloc_new]
    have : m = 0 ∨ m = 1 ∨ m = 2 ∨ m = 3 ∨ m = 4 := by omega
    rcases this with rfl | rfl | rfl | rfl | rfl <;> rfl
  clear hp hR hH hlo hhi
  go_enter Tryz.func106, Tryz.ntmps106
  go_wp2_with fail
  generalize hwq : w.heap.size = tb at HZ0
  generalize hW1 : w.alloc _ = W1 at HB0 HZ0
  clear hW1
  go_loopw [9, 10, 11] (fun ti tj _ wr => ∃ i j : Nat, i ≤ m ∧ m ≤ j ∧ j ≤ ds.length ∧ ti = .int .i64 i ∧ tj = .int .i64 j ∧ Hid (Below w.heap.size w wr) ∧ Hid (∀ m, m < 5 → wr.cell? ⟨tb, m, none⟩ = some (tv m))) (fun ti tj _ _ => (intOf tj - intOf ti).toNat)
  case atStart => exact ⟨0, ds.length, by omega, by omega, by omega, rfl, rfl, HB0, HZ0⟩
  case round =>
    obtain ⟨i, j, hi, hj, hjl, rfl, rfl, hb, hz⟩ := hrel
    clear HB0 HZ0
    have HIN := Lib.hid (fun W (hW : Below wr.heap.size wr W) => (HH.out.below hb.out).below hW)
    by_cases hlt : i < j
    · have e1 : IntKind.i64.wrap ((i : Int) + (j : Int)) = (i : Int) + (j : Int) := IntWalk.i64_in _ (by omega)
      obtain ⟨h, hh⟩ : ∃ h, h = (i + j) / 2 := ⟨_, rfl⟩
      have hhl : h < ds.length := by omega
      have hih : i ≤ h := by omega
      have hhj : h < j := by omega
      have k2 : ((i : Int) + (j : Int)) / 2 = (h : Int) := by omega
      obtain ⟨b, off, rfl, hbl, hc⟩ := HR.out.at_ (HH.out.below hb.out) hhl (by omega)
      have c0 : wr.cell? ⟨b, off + h * 5, none⟩ = some (f ds[h] 0) := hc 0 (by omega)
      have c1 : wr.cell? ⟨b, off + h * 5 + 1, none⟩ = some (f ds[h] 1) := hc 1 (by omega)
      have c2 : wr.cell? ⟨b, off + h * 5 + 2, none⟩ = some (f ds[h] 2) := hc 2 (by omega)
      have c3 : wr.cell? ⟨b, off + h * 5 + 3, none⟩ = some (f ds[h] 3) := hc 3 (by omega)
      have c4 : wr.cell? ⟨b, off + h * 5 + 4, none⟩ = some (f ds[h] 4) := hc 4 (by omega)
      have HC := Lib.hid (fun W hW => HP.out W ds[h] (List.getElem_mem hhl) hW)
      have HL := Lib.hid (HLO.out h hhl)
      have HU := Lib.hid (HHI.out h hhl)
      clear hc hh
      generalize hpd : c ds[h] = q at HC HL HU
      generalize f ds[h] 0 = x0 at c0 HC
      generalize f ds[h] 1 = x1 at c1 HC
      generalize f ds[h] 2 = x2 at c2 HC
      generalize f ds[h] 3 = x3 at c3 HC
      generalize f ds[h] 4 = x4 at c4 HC
      clear hpd
      have K0 := lift_cell c0
      have K1 := lift_cell c1
      have K2 := lift_cell c2
      have K3 := lift_cell c3
      have K4 := lift_cell c4
      have J0 := lift_cell (hz.out 0 (by omega))
      have J1 := lift_cell (hz.out 1 (by omega))
      have J2 := lift_cell (hz.out 2 (by omega))
      have J3 := lift_cell (hz.out 3 (by omega))
      have J4 := lift_cell (hz.out 4 (by omega))
      clear c0 c1 c2 c3 c4
      go_upto_region 5 with (fail)
      clear k2
      (refine wp_region_det 6 49 (fun W => Below (wr).heap.size (wr) W) (by kernel_rfl) (by kernel_rfl) (by rfl) (Below.refl _ _).drew ?_; simp only [List.take_succ_cons, List.take_zero, List.drop_succ_cons, List.drop_zero])
      iterate 6 (refine detSeq_op rfl ?_ (fun W hW => ?_) ?_; rotate_left; (focus simp only [OpV]; go_simp; first | exact rfl | exact ⟨rfl, hW⟩))
      refine detSeq_nil (fun W3 hW3 => ?_)
      have HW3 := Lib.hid hW3
      clear K0 K1 K2 K3 K4 J0 J1 J2 J3 J4 hW3
      go_wp2_with fail
      refine (HC.out _ (HIN.out _ HW3.out)).mono ?_
      rintro e w1 ⟨rfl, hb1⟩
      have hb9 := Lib.hid (det_back HW3.out hb1)
      have hb2 := Lib.hid (hb.out.trans (hb9.out.mono hb.out.size))
      have hz2 : Hid (∀ m, m < 5 → w1.cell? ⟨tb, m, none⟩ = some (tv m)) := fun m hm => lift_cell (hz.out m hm) _ hb9.out
      clear hb1 hb hz hb9
      by_cases hq : q < 0
      · have hhm : h < m := by
          apply Classical.byContradiction
          intro hn
          have := HU.out (by omega)
          omega
        go_wp2_with fail
        go_roundw
        case rel => exact ⟨h + 1, j, by omega, by omega, by omega, by go_num, rfl, hb2, hz2⟩
        case measure => simp [intOf]; omega
      · have hhm : m ≤ h := by
          apply Classical.byContradiction
          intro hn
          exact hq (HL.out (by omega))
        go_wp2_with fail
        go_roundw
        case rel => exact ⟨i, h, by omega, by omega, by omega, rfl, rfl, hb2, hz2⟩
        case measure => simp [intOf]; omega
    · have him : i = m := by omega
      subst him
      by_cases hml : i < ds.length
      · have d1 : decide ((i : Int) < (ds.length : Int)) = true := by simpa using hml
        obtain ⟨b, off, rfl, hbl, hc⟩ := HR.out.at_ (HH.out.below hb.out) hml (by omega)
        have c0 : wr.cell? ⟨b, off + i * 5, none⟩ = some (f ds[i] 0) := hc 0 (by omega)
        have c1 : wr.cell? ⟨b, off + i * 5 + 1, none⟩ = some (f ds[i] 1) := hc 1 (by omega)
        have c2 : wr.cell? ⟨b, off + i * 5 + 2, none⟩ = some (f ds[i] 2) := hc 2 (by omega)
        have c3 : wr.cell? ⟨b, off + i * 5 + 3, none⟩ = some (f ds[i] 3) := hc 3 (by omega)
        have c4 : wr.cell? ⟨b, off + i * 5 + 4, none⟩ = some (f ds[i] 4) := hc 4 (by omega)
        have HC := Lib.hid (fun W hW => HP.out W ds[i] (List.getElem_mem hml) hW)
        have HV := Lib.hid (hasAt_lt (c := c) hml)
        clear hc
        generalize hpd : c ds[i] = q at HC HV
        generalize f ds[i] 0 = x0 at c0 HC
        generalize f ds[i] 1 = x1 at c1 HC
        generalize f ds[i] 2 = x2 at c2 HC
        generalize f ds[i] 3 = x3 at c3 HC
        generalize f ds[i] 4 = x4 at c4 HC
        clear hpd
        have K0 := lift_cell c0
        have K1 := lift_cell c1
        have K2 := lift_cell c2
        have K3 := lift_cell c3
        have K4 := lift_cell c4
        have J0 := lift_cell (hz.out 0 (by omega))
        have J1 := lift_cell (hz.out 1 (by omega))
        have J2 := lift_cell (hz.out 2 (by omega))
        have J3 := lift_cell (hz.out 3 (by omega))
        have J4 := lift_cell (hz.out 4 (by omega))
        clear c0 c1 c2 c3 c4
        go_upto_region 8 with (fail)
        (refine wp_region_det 15 49 (fun W => Below (wr).heap.size (wr) W) (by kernel_rfl) (by kernel_rfl) (by rfl) (Below.refl _ _).drew ?_; simp only [List.take_succ_cons, List.take_zero, List.drop_succ_cons, List.drop_zero])
        iterate 3 (refine detSeq_op rfl ?_ (fun W hW => ?_) ?_; rotate_left; (focus simp only [OpV]; go_simp; first | exact rfl | exact ⟨rfl, hW⟩))
        (refine detSeq_op rfl (.bool true) (fun W hW => ?_) ?_; focus (simp only [OpV]; go_simp; first | exact rfl | exact ⟨by rw [d1], hW⟩ | skip))
        iterate 1 (refine detSeq_op rfl ?_ (fun W hW => ?_) ?_; rotate_left; (focus simp only [OpV]; go_simp; first | exact rfl | exact ⟨rfl, hW⟩))
        iterate 6 (refine detSeq_yes (by kernel_rfl) ?_ (fun W hW => ?_) ?_; rotate_left; (focus simp only [OpV]; go_simp; first | exact rfl | exact ⟨rfl, hW⟩))
        (refine detSeq_yes (by kernel_rfl) ?_ (fun W hW => ?_) ?_; rotate_left; focus (simp only [OpV]; go_simp; refine (HC.out W (HIN.out W hW)).mono ?_; rintro e w' ⟨rfl, hb⟩; refine ⟨_, rfl, ?_, det_back hW hb⟩; exact rfl))
        iterate 1 (refine detSeq_yes (by kernel_rfl) ?_ (fun W hW => ?_) ?_; rotate_left; (focus simp only [OpV]; go_simp; first | exact rfl | exact ⟨rfl, hW⟩))
        iterate 2 (refine detSeq_op rfl ?_ (fun W hW => ?_) ?_; rotate_left; (focus simp only [OpV]; go_simp; first | exact rfl | exact ⟨rfl, hW⟩))
        refine detSeq_nil (fun W3 hW3 => ?_)
        have hb2 := Lib.hid (hb.out.trans (hW3.mono hb.out.size))
        clear K0 K1 K2 K3 K4 J0 J1 J2 J3 J4 hW3 hb hz
        go_wp2_with fail
        go_ret2
        exact ⟨by rw [HV.out]; simp, hb2.out⟩
      · have d1 : decide ((i : Int) < (ds.length : Int)) = false := by simpa using hml
        have hf := Lib.hid (hasAt_ge (c := c) (show ds.length ≤ i by omega))
        go_upto_region 8 with (fail)
        (refine wp_region_det 15 49 (fun W => Below (wr).heap.size (wr) W) (by kernel_rfl) (by kernel_rfl) (by rfl) (Below.refl _ _).drew ?_; simp only [List.take_succ_cons, List.take_zero, List.drop_succ_cons, List.drop_zero])
        iterate 3 (refine detSeq_op rfl ?_ (fun W hW => ?_) ?_; rotate_left; (focus simp only [OpV]; go_simp; first | exact rfl | exact ⟨rfl, hW⟩))
        (refine detSeq_op rfl (.bool false) (fun W hW => ?_) ?_; focus (simp only [OpV]; go_simp; first | exact rfl | exact ⟨by rw [d1], hW⟩ | skip))
        iterate 1 (refine detSeq_op rfl ?_ (fun W hW => ?_) ?_; rotate_left; (focus simp only [OpV]; go_simp; first | exact rfl | exact ⟨rfl, hW⟩))
        iterate 8 (refine detSeq_no (by kernel_rfl) ?_)
        iterate 2 (refine detSeq_op rfl ?_ (fun W hW => ?_) ?_; rotate_left; (focus simp only [OpV]; go_simp; first | exact rfl | exact ⟨rfl, hW⟩))
        refine detSeq_nil (fun W3 hW3 => ?_)
        have hb2 := Lib.hid (hb.out.trans (hW3.mono hb.out.size))
        clear hW3 hb hz
        go_wp2_with fail
        go_ret2
        exact ⟨by rw [hf.out]; simp, hb2.out⟩
end
end Go.Proofs.YtmlpfbffecdepaaGreatDoor

/- BinarySearchFunc at elements of 8 cells. -/
namespace Go.Proofs.YtmlpfbffecdepaaGreatDoor
set_option linter.unusedVariables false
open Go.RowKit

section
variable {D : Type}
set_option maxHeartbeats 1000000 in
set_option maxRecDepth 100000 in
theorem bsf_Sta (H : Frz) (f : D → Nat → Value) (kf : Nat) (tv : Value) (c : D → Int) (ds : List D) (hp : ∀ (W : World) (d : D), d ∈ ds → H.In W → Calls Tryz.prog kf #[.agg #[f d 0, f d 1, f d 2, f d 3, f d 4, f d 5, f d 6, f d 7], tv] W fun e W' => e = .returned (.int .i64 (c d)) ∧ Below W.heap.size W W')
    (hcall : ∀ (a b : Value) (W : World), (callFunc kf #[a, b]).run Tryz.prog W = .ok (.enter kf #[a, b]) W)
    (A : Option Addr) (cap : Nat) (w : World) (hH : H.In w) (hR : Rw H A 8 f ds) (hl : ds.length ≤ 1000000) (m : Nat) (hm : m ≤ ds.length) (hlo : ∀ i (h : i < ds.length), i < m → c ds[i] < 0) (hhi : ∀ i (h : i < ds.length), m ≤ i → 0 ≤ c ds[i]) :
    Calls Tryz.prog 72 #[.slice A ds.length cap, tv, .func (.func kf) #[] #[]] w fun e w' => e = .returned (.tuple #[.int .i64 m, .bool (hasAt c ds m)]) ∧ Below w.heap.size w w' := by
  have HP := Lib.hid hp
  have HR := Lib.hid hR
  have HH := Lib.hid hH
  have HLO := Lib.hid hlo
  have HHI := Lib.hid hhi
  clear hp hR hH hlo hhi
  go_enter Tryz.func72, Tryz.ntmps72
  go_wp2_with fail
  go_loopw [9, 10, 11] (fun ti tj _ wr => ∃ i j : Nat, i ≤ m ∧ m ≤ j ∧ j ≤ ds.length ∧ ti = .int .i64 i ∧ tj = .int .i64 j ∧ Hid (Below w.heap.size w wr)) (fun ti tj _ _ => (intOf tj - intOf ti).toNat)
  case atStart => exact ⟨0, ds.length, by omega, by omega, by omega, rfl, rfl, Below.refl _ _⟩
  case round =>
    obtain ⟨i, j, hi, hj, hjl, rfl, rfl, hb⟩ := hrel
    by_cases hlt : i < j
    · have e1 : IntKind.i64.wrap ((i : Int) + (j : Int)) = (i : Int) + (j : Int) := IntWalk.i64_in _ (by omega)
      obtain ⟨h, hh⟩ : ∃ h, h = (i + j) / 2 := ⟨_, rfl⟩
      have hhl : h < ds.length := by omega
      have hih : i ≤ h := by omega
      have hhj : h < j := by omega
      have k2 : ((i : Int) + (j : Int)) / 2 = (h : Int) := by omega
      obtain ⟨b, off, rfl, hbl, hc⟩ := HR.out.at_ (HH.out.below hb.out) hhl (by omega)
      have c0 : wr.cell? ⟨b, off + h * 8, none⟩ = some (f ds[h] 0) := hc 0 (by omega)
      have c1 : wr.cell? ⟨b, off + h * 8 + 1, none⟩ = some (f ds[h] 1) := hc 1 (by omega)
      have c2 : wr.cell? ⟨b, off + h * 8 + 2, none⟩ = some (f ds[h] 2) := hc 2 (by omega)
      have c3 : wr.cell? ⟨b, off + h * 8 + 3, none⟩ = some (f ds[h] 3) := hc 3 (by omega)
      have c4 : wr.cell? ⟨b, off + h * 8 + 4, none⟩ = some (f ds[h] 4) := hc 4 (by omega)
      have c5 : wr.cell? ⟨b, off + h * 8 + 5, none⟩ = some (f ds[h] 5) := hc 5 (by omega)
      have c6 : wr.cell? ⟨b, off + h * 8 + 6, none⟩ = some (f ds[h] 6) := hc 6 (by omega)
      have c7 : wr.cell? ⟨b, off + h * 8 + 7, none⟩ = some (f ds[h] 7) := hc 7 (by omega)
      have HC := Lib.hid (fun W hW => HP.out W ds[h] (List.getElem_mem hhl) hW)
      have HL := Lib.hid (HLO.out h hhl)
      have HU := Lib.hid (HHI.out h hhl)
      clear hc hh
      generalize hpd : c ds[h] = q at HC HL HU
      generalize f ds[h] 0 = x0 at c0 HC
      generalize f ds[h] 1 = x1 at c1 HC
      generalize f ds[h] 2 = x2 at c2 HC
      generalize f ds[h] 3 = x3 at c3 HC
      generalize f ds[h] 4 = x4 at c4 HC
      generalize f ds[h] 5 = x5 at c5 HC
      generalize f ds[h] 6 = x6 at c6 HC
      generalize f ds[h] 7 = x7 at c7 HC
      clear hpd
      go_wp2_with fail
      refine (HC.out _ (HH.out.below hb.out)).mono ?_
      rintro e w1 ⟨rfl, hb1⟩
      have hb2 := Lib.hid (hb.out.trans (hb1.mono hb.out.size))
      clear hb1 hb k2
      by_cases hq : q < 0
      · have hhm : h < m := by
          apply Classical.byContradiction
          intro hn
          have := HU.out (by omega)
          omega
        go_wp2_with fail
        go_roundw
        case rel => exact ⟨h + 1, j, by omega, by omega, by omega, by go_num, rfl, hb2⟩
        case measure => simp [intOf]; omega
      · have hhm : m ≤ h := by
          apply Classical.byContradiction
          intro hn
          exact hq (HL.out (by omega))
        go_wp2_with fail
        go_roundw
        case rel => exact ⟨i, h, by omega, by omega, by omega, rfl, rfl, hb2⟩
        case measure => simp [intOf]; omega
    · have him : i = m := by omega
      subst him
      by_cases hml : i < ds.length
      · have d1 : decide ((i : Int) < (ds.length : Int)) = true := by simpa using hml
        obtain ⟨b, off, rfl, hbl, hc⟩ := HR.out.at_ (HH.out.below hb.out) hml (by omega)
        have c0 : wr.cell? ⟨b, off + i * 8, none⟩ = some (f ds[i] 0) := hc 0 (by omega)
        have c1 : wr.cell? ⟨b, off + i * 8 + 1, none⟩ = some (f ds[i] 1) := hc 1 (by omega)
        have c2 : wr.cell? ⟨b, off + i * 8 + 2, none⟩ = some (f ds[i] 2) := hc 2 (by omega)
        have c3 : wr.cell? ⟨b, off + i * 8 + 3, none⟩ = some (f ds[i] 3) := hc 3 (by omega)
        have c4 : wr.cell? ⟨b, off + i * 8 + 4, none⟩ = some (f ds[i] 4) := hc 4 (by omega)
        have c5 : wr.cell? ⟨b, off + i * 8 + 5, none⟩ = some (f ds[i] 5) := hc 5 (by omega)
        have c6 : wr.cell? ⟨b, off + i * 8 + 6, none⟩ = some (f ds[i] 6) := hc 6 (by omega)
        have c7 : wr.cell? ⟨b, off + i * 8 + 7, none⟩ = some (f ds[i] 7) := hc 7 (by omega)
        have HC := Lib.hid (fun W hW => HP.out W ds[i] (List.getElem_mem hml) hW)
        have HV := Lib.hid (hasAt_lt (c := c) hml)
        clear hc
        generalize hpd : c ds[i] = q at HC HV
        generalize f ds[i] 0 = x0 at c0 HC
        generalize f ds[i] 1 = x1 at c1 HC
        generalize f ds[i] 2 = x2 at c2 HC
        generalize f ds[i] 3 = x3 at c3 HC
        generalize f ds[i] 4 = x4 at c4 HC
        generalize f ds[i] 5 = x5 at c5 HC
        generalize f ds[i] 6 = x6 at c6 HC
        generalize f ds[i] 7 = x7 at c7 HC
        clear hpd
        go_wp2_with fail
        refine (HC.out _ (HH.out.below hb.out)).mono ?_
        rintro e w1 ⟨rfl, hb1⟩
        have hb2 := Lib.hid (hb.out.trans (hb1.mono hb.out.size))
        clear hb1 hb
        go_wp2_with fail
        go_ret2
        exact ⟨by rw [HV.out]; simp, hb2.out⟩
      · have hf := Lib.hid (hasAt_ge (c := c) (show ds.length ≤ i by omega))
        go_wp2_with fail
        go_ret2
        exact ⟨by rw [hf.out]; simp, hb.out⟩
end
end Go.Proofs.YtmlpfbffecdepaaGreatDoor

/- Cells of blocks: new ones, kept ones, stores into a block of the call's own. -/
namespace Go.Proofs.YtmlpfbffecdepaaGreatDoor
set_option linter.unusedVariables false
open Go.RowKit
theorem newc {w : World} {T : TypeId} {xs : Array Value} (m : Nat) {v : Value} (h : xs[m]? = some v) : (w.alloc (.cells xs T)).cell? ⟨w.heap.size, m, none⟩ = some v := by
  rw [World.cell?_alloc_new]; exact h
theorem oldc {w : World} {o : Obj} {a : Addr} {v : Value} (h : w.cell? a = some v) : (w.alloc o).cell? a = some v := (World.cell?_alloc_lt w _ _ (World.block_lt_of_cell? w _ h)).trans h
theorem new1 {w : World} (o : Obj) : Below w.heap.size w (w.alloc o) := (Below.refl _ _).alloc (Nat.le_refl _) _
theorem new2 {w : World} (o1 o2 : Obj) : Below w.heap.size w ((w.alloc o1).alloc o2) := ((Below.refl _ _).alloc (Nat.le_refl _) _).alloc (by simp) _
theorem sizeA (w : World) (o : Obj) : (w.alloc o).heap.size = w.heap.size + 1 := by simp
end Go.Proofs.YtmlpfbffecdepaaGreatDoor

/- Consents: small checks, orders, the purpose with a name, the term. -/
namespace Go.Proofs.YtmlpfbffecdepaaGreatDoor
set_option linter.unusedVariables false
open Go.RowKit
set_option maxHeartbeats 400000 in
theorem cwithin_any (n l h : Int) (w : World) : Calls Tryz.prog 55 #[.int .i64 n, .int .i64 l, .int .i64 h] w fun e w' => e = .returned (.bool (decide (l ≤ n) && decide (n ≤ h))) ∧ w = w' := by
  by_cases h1 : l ≤ n
  · go_enter Tryz.func55, Tryz.ntmps55
    go_wp2
    go_ret
    exact ⟨by simp [h1], rfl⟩
  · go_enter Tryz.func55, Tryz.ntmps55
    go_wp2
    go_ret
    exact ⟨by simp; omega, rfl⟩
set_option maxHeartbeats 400000 in
theorem isChannel_any (n : Int) (w : World) : Calls Tryz.prog 58 #[.int .i64 n] w fun e w' => e = .returned (.bool (chB n)) ∧ w = w' := by
  go_enter Tryz.func58, Tryz.ntmps58
  go_wp2_with fail
  refine (cwithin_any _ _ _ _).mono ?_
  rintro e w' ⟨rfl, rfl⟩
  rw [show (decide ((1 : Int) ≤ n) && decide (n ≤ 4)) = chB n from rfl]
  go_wp2_with fail
  go_ret
  exact ⟨rfl, rfl⟩
set_option maxHeartbeats 400000 in
theorem ofChannel_any (n : Int) (w : World) : Calls Tryz.prog 40 #[.int .i64 n] w fun e w' => e = .returned (.bool (ofCh n)) ∧ w = w' := by
  by_cases h1 : n = 4
  · have h2 : (n == 4) = true := by simpa using h1
    have hv : Hid (ofCh n = true) := by show _ = _; simp [ofCh, h1]
    clear h1
    go_enter Tryz.func40, Tryz.ntmps40
    go_wp2
    go_ret
    exact ⟨ret_bool' hv.out.symm, rfl⟩
  · have h2 : (n == 4) = false := by simpa using h1
    have hv : Hid (ofCh n = (n == 5)) := by
      show _ = _
      unfold ofCh
      rw [decide_eq_false h1, Bool.false_or]
      rw [Bool.eq_iff_iff]; simp
    clear h1
    go_enter Tryz.func40, Tryz.ntmps40
    go_wp2
    go_ret
    exact ⟨ret_bool' hv.out.symm, rfl⟩
set_option maxHeartbeats 400000 in
theorem purName_any (d : PurD) (name : ByteArray) (w : World) : Calls Tryz.prog 93 #[.agg #[fPu d 0, fPu d 1], .string name] w fun e w' => e = .returned (.int .i64 (cmpS d.name name)) ∧ Below w.heap.size w w' := by
  have hb := Lib.hid ((Below.refl w.heap.size w).alloc (Nat.le_refl _) (.cells #[.string d.name, .slice d.adr d.terms.length d.cap] 58))
  rw [show fPu d 0 = .string d.name from rfl, show fPu d 1 = .slice d.adr d.terms.length d.cap from rfl]
  go_enter Tryz.func93, Tryz.ntmps93
  go_wp2_with fail
  refine (cmpStr_any _ _ _).mono ?_
  rintro e w' ⟨rfl, rfl⟩
  generalize hc : cmpS d.name name = c
  have HC := Lib.hid hc
  clear hc
  go_wp2_with fail
  go_ret
  exact ⟨ret_int HC.out.symm, hb.out⟩
set_option maxHeartbeats 1000000 in
set_option maxRecDepth 100000 in
theorem termOrder_raw (r s : ByteArray) (c d : Int) (f1 f2 : Bool) (n1 n2 m1 m2 : Int) (w : World) : Calls Tryz.prog 84 #[.agg #[.string r, .int .i64 c, .bool f1, .int .i64 n1, .int .i64 m1], .agg #[.string s, .int .i64 d, .bool f2, .int .i64 n2, .int .i64 m2]] w fun e w' => e = .returned (.int .i64 (orL [cmpS r s, cmpI c d])) ∧ Below w.heap.size w w' := by
  have hb := Lib.hid (new2 (w := w) (.cells #[.string r, .int .i64 c, .bool f1, .int .i64 n1, .int .i64 m1] 60) (.cells #[.string s, .int .i64 d, .bool f2, .int .i64 n2, .int .i64 m2] 60))
  have z0 : ((w.alloc (.cells #[.string r, .int .i64 c, .bool f1, .int .i64 n1, .int .i64 m1] 60)).alloc (.cells #[.string s, .int .i64 d, .bool f2, .int .i64 n2, .int .i64 m2] 60)).cell? ⟨w.heap.size, 0, none⟩ = some (.string r) := oldc (newc 0 rfl)
  have z1 : ((w.alloc (.cells #[.string r, .int .i64 c, .bool f1, .int .i64 n1, .int .i64 m1] 60)).alloc (.cells #[.string s, .int .i64 d, .bool f2, .int .i64 n2, .int .i64 m2] 60)).cell? ⟨w.heap.size, 1, none⟩ = some (.int .i64 c) := oldc (newc 1 rfl)
  have y0 : ((w.alloc (.cells #[.string r, .int .i64 c, .bool f1, .int .i64 n1, .int .i64 m1] 60)).alloc (.cells #[.string s, .int .i64 d, .bool f2, .int .i64 n2, .int .i64 m2] 60)).cell? ⟨w.heap.size + 1, 0, none⟩ = some (.string s) := by rw [← sizeA w (.cells #[.string r, .int .i64 c, .bool f1, .int .i64 n1, .int .i64 m1] 60)]; exact newc 0 rfl
  have y1 : ((w.alloc (.cells #[.string r, .int .i64 c, .bool f1, .int .i64 n1, .int .i64 m1] 60)).alloc (.cells #[.string s, .int .i64 d, .bool f2, .int .i64 n2, .int .i64 m2] 60)).cell? ⟨w.heap.size + 1, 1, none⟩ = some (.int .i64 d) := by rw [← sizeA w (.cells #[.string r, .int .i64 c, .bool f1, .int .i64 n1, .int .i64 m1] 60)]; exact newc 1 rfl
  go_enter Tryz.func84, Tryz.ntmps84
  go_wp2_with fail
  generalize (w.alloc (.cells #[.string r, .int .i64 c, .bool f1, .int .i64 n1, .int .i64 m1] 60)).alloc (.cells #[.string s, .int .i64 d, .bool f2, .int .i64 n2, .int .i64 m2] 60) = W2 at *
  have K0 := lift_cell z0
  have K1 := lift_cell z1
  have J0 := lift_cell y0
  have J1 := lift_cell y1
  clear z0 z1 y0 y1
  (refine wp_region_det 10 17 (fun W => Below (W2).heap.size (W2) W) (by kernel_rfl) (by kernel_rfl) (by rfl) (Below.refl _ _).drew ?_; simp only [List.take_succ_cons, List.take_zero, List.drop_succ_cons, List.drop_zero])
  iterate 4 (refine detSeq_op rfl ?_ (fun W hW => ?_) ?_; rotate_left; (focus simp only [OpV]; go_simp; first | exact rfl | exact ⟨rfl, hW⟩))
  (refine detSeq_op rfl ?_ (fun W hW => ?_) ?_; rotate_left; focus (simp only [OpV]; go_simp; refine (cmpStr_b r s W).mono ?_; rintro e w' ⟨rfl, hb⟩; refine ⟨_, rfl, ?_, det_back hW hb⟩; exact rfl))
  iterate 4 (refine detSeq_op rfl ?_ (fun W hW => ?_) ?_; rotate_left; (focus simp only [OpV]; go_simp; first | exact rfl | exact ⟨rfl, hW⟩))
  (refine detSeq_op rfl ?_ (fun W hW => ?_) ?_; rotate_left; focus (simp only [OpV]; go_simp; refine (cmpInt_b c d W).mono ?_; rintro e w' ⟨rfl, hb⟩; refine ⟨_, rfl, ?_, det_back hW hb⟩; exact rfl))
  refine detSeq_nil (fun W3 hW3 => ?_)
  have HB3 := Lib.hid (hb.out.trans (hW3.mono hb.out.size))
  have HIN : Hid (Ints (W3.alloc (.cells #[.int .i64 (cmpS r s), .int .i64 (cmpI c d)] 3)) (some ⟨W3.heap.size, 0, none⟩) [cmpS r s, cmpI c d]) := Ints.of_row (heap_at rfl) rfl
  clear K0 K1 J0 J1 hW3
  generalize hu : cmpS r s = u at HIN
  generalize hv : cmpI c d = v at HIN
  have HU := Lib.hid hu
  have HV := Lib.hid hv
  clear hu hv
  go_wp2_with fail
  refine (orL_any _ _ [u, v] _ HIN.out (by simp)).mono ?_
  rintro e w' ⟨rfl, rfl⟩
  generalize hq : orL [u, v] = q
  have HQ := Lib.hid hq
  clear hq
  have HB4 := Lib.hid (HB3.out.alloc HB3.out.size (.cells #[.int .i64 u, .int .i64 v] 3))
  go_wp2_with fail
  go_ret
  exact ⟨ret_int (by rw [HU.out, HV.out]; exact HQ.out.symm), HB4.out⟩
theorem termOrder_any (a b : TermD) (w : World) : Calls Tryz.prog 84 #[.agg #[fTe a 0, fTe a 1, fTe a 2, fTe a 3, fTe a 4], .agg #[fTe b 0, fTe b 1, fTe b 2, fTe b 3, fTe b 4]] w fun e w' => e = .returned (.int .i64 (teCmp a b)) ∧ Below w.heap.size w w' :=
  (termOrder_raw a.region b.region a.ch b.ch a.free b.free a.days b.days a.wait b.wait w).mono fun e w' ⟨h1, h2⟩ => ⟨by rw [h1, orL_two]; rfl, h2⟩
end Go.Proofs.YtmlpfbffecdepaaGreatDoor

/- Consents: the purpose with a name, the term, what was said up to a moment. -/
namespace Go.Proofs.YtmlpfbffecdepaaGreatDoor
set_option linter.unusedVariables false
open Go.RowKit
set_option maxHeartbeats 1000000 in
set_option maxRecDepth 100000 in
theorem saidOrd_raw (a0 b0 : Int) (a1 b1 : Int) (a2 b2 : Int) (a3 b3 : ByteArray) (a4 b4 : ByteArray) (a5 b5 : ByteArray) (a6 b6 : Int) (a7 b7 : Int) (w : World) : Calls Tryz.prog 108 #[.agg #[.int .i64 a0, .int .i64 a1, .int .i64 a2, .string a3, .string a4, .string a5, .int .i64 a6, .int .i64 a7], .agg #[.int .i64 b0, .int .i64 b1, .int .i64 b2, .string b3, .string b4, .string b5, .int .i64 b6, .int .i64 b7]] w fun e w' => e = .returned (.int .i64 (orL [cmpI a1 b1, cmpI a0 b0])) ∧ Below w.heap.size w w' := by
  have hb := Lib.hid (new2 (w := w) (.cells #[.int .i64 a0, .int .i64 a1, .int .i64 a2, .string a3, .string a4, .string a5, .int .i64 a6, .int .i64 a7] 38) (.cells #[.int .i64 b0, .int .i64 b1, .int .i64 b2, .string b3, .string b4, .string b5, .int .i64 b6, .int .i64 b7] 38))
  have z0 : ((w.alloc (.cells #[.int .i64 a0, .int .i64 a1, .int .i64 a2, .string a3, .string a4, .string a5, .int .i64 a6, .int .i64 a7] 38)).alloc (.cells #[.int .i64 b0, .int .i64 b1, .int .i64 b2, .string b3, .string b4, .string b5, .int .i64 b6, .int .i64 b7] 38)).cell? ⟨w.heap.size, 0, none⟩ = some (.int .i64 a0) := oldc (newc 0 rfl)
  have y0 : ((w.alloc (.cells #[.int .i64 a0, .int .i64 a1, .int .i64 a2, .string a3, .string a4, .string a5, .int .i64 a6, .int .i64 a7] 38)).alloc (.cells #[.int .i64 b0, .int .i64 b1, .int .i64 b2, .string b3, .string b4, .string b5, .int .i64 b6, .int .i64 b7] 38)).cell? ⟨w.heap.size + 1, 0, none⟩ = some (.int .i64 b0) := by rw [← sizeA w (.cells #[.int .i64 a0, .int .i64 a1, .int .i64 a2, .string a3, .string a4, .string a5, .int .i64 a6, .int .i64 a7] 38)]; exact newc 0 rfl
  have z1 : ((w.alloc (.cells #[.int .i64 a0, .int .i64 a1, .int .i64 a2, .string a3, .string a4, .string a5, .int .i64 a6, .int .i64 a7] 38)).alloc (.cells #[.int .i64 b0, .int .i64 b1, .int .i64 b2, .string b3, .string b4, .string b5, .int .i64 b6, .int .i64 b7] 38)).cell? ⟨w.heap.size, 1, none⟩ = some (.int .i64 a1) := oldc (newc 1 rfl)
  have y1 : ((w.alloc (.cells #[.int .i64 a0, .int .i64 a1, .int .i64 a2, .string a3, .string a4, .string a5, .int .i64 a6, .int .i64 a7] 38)).alloc (.cells #[.int .i64 b0, .int .i64 b1, .int .i64 b2, .string b3, .string b4, .string b5, .int .i64 b6, .int .i64 b7] 38)).cell? ⟨w.heap.size + 1, 1, none⟩ = some (.int .i64 b1) := by rw [← sizeA w (.cells #[.int .i64 a0, .int .i64 a1, .int .i64 a2, .string a3, .string a4, .string a5, .int .i64 a6, .int .i64 a7] 38)]; exact newc 1 rfl
  go_enter Tryz.func108, Tryz.ntmps108
  go_wp2_with fail
  generalize (w.alloc (.cells #[.int .i64 a0, .int .i64 a1, .int .i64 a2, .string a3, .string a4, .string a5, .int .i64 a6, .int .i64 a7] 38)).alloc (.cells #[.int .i64 b0, .int .i64 b1, .int .i64 b2, .string b3, .string b4, .string b5, .int .i64 b6, .int .i64 b7] 38) = W2 at *
  have K0 := lift_cell z0
  have J0 := lift_cell y0
  have K1 := lift_cell z1
  have J1 := lift_cell y1
  clear z0 y0 z1 y1
  (refine wp_region_det 10 17 (fun W => Below (W2).heap.size (W2) W) (by kernel_rfl) (by kernel_rfl) (by rfl) (Below.refl _ _).drew ?_; simp only [List.take_succ_cons, List.take_zero, List.drop_succ_cons, List.drop_zero])
  iterate 4 (refine detSeq_op rfl ?_ (fun W hW => ?_) ?_; rotate_left; (focus simp only [OpV]; go_simp; first | exact rfl | exact ⟨rfl, hW⟩))
  (refine detSeq_op rfl ?_ (fun W hW => ?_) ?_; rotate_left; focus (simp only [OpV]; go_simp; refine (cmpInt_b a1 b1 W).mono ?_; rintro e w' ⟨rfl, hb⟩; refine ⟨_, rfl, ?_, det_back hW hb⟩; exact rfl))
  iterate 4 (refine detSeq_op rfl ?_ (fun W hW => ?_) ?_; rotate_left; (focus simp only [OpV]; go_simp; first | exact rfl | exact ⟨rfl, hW⟩))
  (refine detSeq_op rfl ?_ (fun W hW => ?_) ?_; rotate_left; focus (simp only [OpV]; go_simp; refine (cmpInt_b a0 b0 W).mono ?_; rintro e w' ⟨rfl, hb⟩; refine ⟨_, rfl, ?_, det_back hW hb⟩; exact rfl))
  refine detSeq_nil (fun W3 hW3 => ?_)
  have HB3 := Lib.hid (hb.out.trans (hW3.mono hb.out.size))
  have HIN : Hid (Ints (W3.alloc (.cells #[.int .i64 (cmpI a1 b1), .int .i64 (cmpI a0 b0)] 3)) (some ⟨W3.heap.size, 0, none⟩) [cmpI a1 b1, cmpI a0 b0]) := Ints.of_row (heap_at rfl) rfl
  clear K0 J0 K1 J1 hW3
  generalize hu1 : cmpI a1 b1 = u1 at HIN
  have HU1 := Lib.hid hu1
  clear hu1
  generalize hu0 : cmpI a0 b0 = u0 at HIN
  have HU0 := Lib.hid hu0
  clear hu0
  go_wp2_with fail
  refine (orL_any _ _ [u1, u0] _ HIN.out (by simp)).mono ?_
  rintro e w' ⟨rfl, rfl⟩
  generalize hq : orL [u1, u0] = q
  have HQ := Lib.hid hq
  clear hq
  have HB4 := Lib.hid (HB3.out.alloc HB3.out.size (.cells #[.int .i64 u1, .int .i64 u0] 3))
  go_wp2_with fail
  go_ret
  exact ⟨ret_int (by rw [HU1.out, HU0.out]; exact HQ.out.symm), HB4.out⟩
theorem saidOrd_any (a b : StD) (w : World) : Calls Tryz.prog 108 #[.agg #[fSt a 0, fSt a 1, fSt a 2, fSt a 3, fSt a 4, fSt a 5, fSt a 6, fSt a 7], .agg #[fSt b 0, fSt b 1, fSt b 2, fSt b 3, fSt b 4, fSt b 5, fSt b 6, fSt b 7]] w fun e w' => e = .returned (.int .i64 (stCmp a b)) ∧ Below w.heap.size w w' :=
  (saidOrd_raw a.no b.no a.at_ b.at_ a.kind b.kind a.text b.text a.purp b.purp a.region b.region a.ch b.ch a.what b.what w).mono fun e w' ⟨h1, h2⟩ => ⟨by rw [h1, orL_two]; rfl, h2⟩
set_option maxHeartbeats 1000000 in
theorem upToC_raw (a0 a1 a2 : Int) (a3 a4 a5 : ByteArray) (a6 a7 n : Int) (w : World) : Calls Tryz.prog 73 #[.agg #[.int .i64 a0, .int .i64 a1, .int .i64 a2, .string a3, .string a4, .string a5, .int .i64 a6, .int .i64 a7], .int .i64 n] w fun e w' => e = .returned (.int .i64 (cmpI a1 n)) ∧ Below w.heap.size w w' := by
  have hb := Lib.hid (new1 (w := w) (.cells #[.int .i64 a0, .int .i64 a1, .int .i64 a2, .string a3, .string a4, .string a5, .int .i64 a6, .int .i64 a7] 38))
  go_enter Tryz.func73, Tryz.ntmps73
  go_wp2_with fail
  refine (cmpInt_any _ _ _).mono ?_
  rintro e w' ⟨rfl, rfl⟩
  generalize hc : cmpI a1 n = c
  have HC := Lib.hid hc
  clear hc
  go_wp2_with fail
  go_ret
  exact ⟨ret_int HC.out.symm, hb.out⟩
theorem upToC_any (a : StD) (n : Int) (w : World) : Calls Tryz.prog 73 #[.agg #[fSt a 0, fSt a 1, fSt a 2, fSt a 3, fSt a 4, fSt a 5, fSt a 6, fSt a 7], .int .i64 n] w fun e w' => e = .returned (.int .i64 (cmpI a.at_ n)) ∧ Below w.heap.size w w' := upToC_raw _ _ _ _ _ _ _ _ _ _

/-- A policy that is laid for good. -/
structure PolIn (H : Frz) (A : Option Addr) (ps : List PurD) : Prop where
  row : Rw H A 2 fPu ps
  terms : ∀ p ∈ ps, Rw H p.adr 5 fTe p.terms
  size : ∀ p ∈ ps, p.name.size ≤ 1000000 ∧ p.terms.length ≤ 1000 ∧ p.terms.length ≤ p.cap ∧ ∀ t ∈ p.terms, t.region.size ≤ 1000000
theorem PolIn.le {H H' : Frz} {A : Option Addr} {ps : List PurD} (h : PolIn H A ps) (hl : H.Le H') : PolIn H' A ps := ⟨h.row.le hl, fun p hp => (h.terms p hp).le hl, h.size⟩
/-- In order. -/
def PurSorted (ps : List PurD) : Prop := ps.Pairwise fun a b => cmpS a.name b.name < 0
def TerSorted (ts : List TermD) : Prop := ts.Pairwise fun a b => teCmp a b < 0
theorem cmpS_le_trans {a b c : ByteArray} (h1 : cmpS a b ≤ 0) (h2 : cmpS b c < 0) : cmpS a c < 0 := by
  rcases Int.lt_or_eq_of_le h1 with h | h
  · exact cmpS_trans h h2
  · rw [cmpS_zero h]; exact h2
/-- How many are ahead of what is sought. -/
theorem split_at {D : Type} (c : D → Int) (ds : List D) (hs : ∀ i j (hi : i < ds.length) (hj : j < ds.length), i < j → 0 ≤ c ds[i] → 0 < c ds[j]) :
    ∃ m, m = (ds.takeWhile fun d => decide (c d < 0)).length ∧ m ≤ ds.length ∧ (∀ i (h : i < ds.length), i < m → c ds[i] < 0) ∧ (∀ i (h : i < ds.length), m ≤ i → 0 ≤ c ds[i]) ∧ (∀ p : D → Bool, (∀ d, p d = true ↔ c d = 0) → ds.find? p = if hasAt c ds m = true then ds[m]? else none) := by
  refine ⟨(ds.takeWhile fun d => decide (c d < 0)).length, rfl, ?_, ?_, ?_, ?_⟩
  · exact (List.takeWhile_sublist _).length_le
  · intro i h hi
    have e : ds = (ds.takeWhile fun d => decide (c d < 0)) ++ (ds.dropWhile fun d => decide (c d < 0)) := List.takeWhile_append_dropWhile.symm
    have h1 : ds[i]? = (ds.takeWhile fun d => decide (c d < 0))[i]? := by
      conv => lhs; rw [e]
      rw [List.getElem?_append_left hi]
    rw [List.getElem?_eq_getElem h, List.getElem?_eq_getElem hi] at h1
    injection h1 with h1
    have h2 := List.all_takeWhile (p := fun d => decide (c d < 0)) (l := ds)
    have h3 := List.all_eq_true.1 h2 _ (List.getElem_mem hi)
    rw [← h1] at h3
    simpa using h3
  · intro i h hi
    have e : ds = (ds.takeWhile fun d => decide (c d < 0)) ++ (ds.dropWhile fun d => decide (c d < 0)) := List.takeWhile_append_dropWhile.symm
    generalize hk : (ds.takeWhile fun d => decide (c d < 0)).length = k at hi
    have hkl : k < ds.length := by omega
    have hd : (ds.dropWhile fun d => decide (c d < 0)).head? = some ds[k] := by
      have : ds[k]? = (ds.dropWhile fun d => decide (c d < 0))[0]? := by
        conv => lhs; rw [e]
        rw [List.getElem?_append_right (by omega), hk, Nat.sub_self]
      rw [List.head?_eq_getElem?, ← this, List.getElem?_eq_getElem hkl]
    have h0 : 0 ≤ c ds[k] := by
      have := List.head?_dropWhile_not (fun d => decide (c d < 0)) ds
      rw [hd] at this
      simpa using this
    rcases Nat.lt_or_eq_of_le hi with hlt | heq
    · exact Int.le_of_lt (hs k i hkl h hlt h0)
    · subst heq; exact h0
  · intro p hp
    have e : ds = (ds.takeWhile fun d => decide (c d < 0)) ++ (ds.dropWhile fun d => decide (c d < 0)) := List.takeWhile_append_dropWhile.symm
    generalize hk : (ds.takeWhile fun d => decide (c d < 0)).length = k
    have hget : ds[k]? = (ds.dropWhile fun d => decide (c d < 0))[0]? := by
      conv => lhs; rw [e]
      rw [List.getElem?_append_right (by omega), hk, Nat.sub_self]
    have hfT : (ds.takeWhile fun d => decide (c d < 0)).find? p = none := by
      rw [List.find?_eq_none]
      intro d hd
      have := List.all_eq_true.1 (List.all_takeWhile (p := fun d => decide (c d < 0)) (l := ds)) d hd
      have h2 : c d < 0 := by simpa using this
      rw [hp]; omega
    have hf : ds.find? p = (ds.dropWhile fun d => decide (c d < 0)).find? p := by
      conv => lhs; rw [e]
      rw [List.find?_append, hfT]; rfl
    rw [hf]
    unfold hasAt
    rw [hget]
    have hmem : ∀ y, (ds.dropWhile fun d => decide (c d < 0))[0]? = some y → ∀ i (h : i < ds.length), k < i → c y = 0 → 0 < c ds[i] := by
      intro y hy i h hki hcy
      have hkl : k < ds.length := by omega
      rw [← hget, List.getElem?_eq_getElem hkl] at hy
      injection hy with hy
      exact hs k i hkl h hki (by rw [hy, hcy]; exact Int.le_refl 0)
    have hge : ∀ y, (ds.dropWhile fun d => decide (c d < 0))[0]? = some y → 0 ≤ c y := by
      intro y hy
      have := List.head?_dropWhile_not (fun d => decide (c d < 0)) ds
      rw [List.head?_eq_getElem?, hy] at this
      simpa using this
    have hall : ∀ y, (ds.dropWhile fun d => decide (c d < 0))[0]? = some y → ∀ d ∈ (ds.dropWhile fun d => decide (c d < 0)).tail, 0 < c d := by
      intro y hy d hd
      obtain ⟨i, hi, rfl⟩ := List.mem_iff_getElem.1 hd
      have hlen : (ds.dropWhile fun d => decide (c d < 0)).length = ds.length - k := by
        have := congrArg List.length e
        rw [List.length_append, hk] at this; omega
      have hi2 : i < ds.length - k - 1 := by simpa [hlen] using hi
      have hkl : k < ds.length := by omega
      have e3 : (ds.dropWhile fun d => decide (c d < 0)).tail[i] = ds[k + 1 + i] := by
        have : some ((ds.dropWhile fun d => decide (c d < 0)).tail[i]) = some (ds[k + 1 + i]) := by
          rw [← List.getElem?_eq_getElem, ← List.getElem?_eq_getElem]
          conv => rhs; rw [e]
          rw [List.getElem?_append_right (by omega), hk, List.getElem?_tail]
          congr 1; omega
        injection this
      rw [e3]
      rw [← hget, List.getElem?_eq_getElem hkl] at hy
      injection hy with hy
      exact hs k (k + 1 + i) hkl (by omega) (by omega) (by rw [hy]; exact hge y (by rw [← hget, List.getElem?_eq_getElem hkl, hy]))
    cases hq : ds.dropWhile fun d => decide (c d < 0) with
    | nil => simp
    | cons y r =>
      rw [hq] at hall hge
      simp only [List.getElem?_cons_zero]
      by_cases hy : c y = 0
      · have : p y = true := (hp y).2 hy
        simp [this, hy]
      · have hpy : p y = false := by
          cases hpy : p y with
          | false => rfl
          | true => exact absurd ((hp y).1 hpy) hy
        have hr : r.find? p = none := by
          rw [List.find?_eq_none]
          intro d hd
          have := hall y rfl d (by simpa using hd)
          rw [hp]; omega
        simp [hpy, hr, hy]
end Go.Proofs.YtmlpfbffecdepaaGreatDoor

/- Consents: the purpose with a name, the term, what was said up to a moment. -/
namespace Go.Proofs.YtmlpfbffecdepaaGreatDoor
set_option linter.unusedVariables false
open Go.RowKit
def purV (o : Option PurD) : Value := match o with | none => .agg #[.string ⟨#[]⟩, .slice none 0 0] | some p => .agg #[.string p.name, .slice p.adr p.terms.length p.cap]
def terV (o : Option TermD) : Value := match o with | none => .agg #[.string ⟨#[]⟩, .int .i64 0, .bool false, .int .i64 0, .int .i64 0] | some t => .agg #[.string t.region, .int .i64 t.ch, .bool t.free, .int .i64 t.days, .int .i64 t.wait]
theorem pur_steps {ps : List PurD} (h : PurSorted ps) (name : ByteArray) : ∀ i j (hi : i < ps.length) (hj : j < ps.length), i < j → 0 ≤ cmpS ps[i].name name → 0 < cmpS ps[j].name name := by
  intro i j hi hj hij h0
  have h1 := List.pairwise_iff_getElem.1 h i j hi hj hij
  have h2 := cmpS_swap ps[i].name name
  have h3 := cmpS_swap name ps[j].name
  have : cmpS name ps[i].name ≤ 0 := by omega
  have h4 := cmpS_le_trans this h1
  omega
theorem teCmp_lt_iff {a b : TermD} : teCmp a b < 0 ↔ cmpS a.region b.region < 0 ∨ (a.region = b.region ∧ a.ch < b.ch) := by
  unfold teCmp orI
  by_cases h : cmpS a.region b.region = 0
  · rw [if_pos h, cmpI_lt]
    constructor
    · intro h2; exact Or.inr ⟨cmpS_zero h, h2⟩
    · rintro (h2 | h2)
      · omega
      · exact h2.2
  · rw [if_neg h]
    constructor
    · intro h2; exact Or.inl h2
    · rintro (h2 | h2)
      · exact h2
      · rw [h2.1, cmpS_self] at h; exact absurd rfl h
theorem teCmp_zero {a b : TermD} : teCmp a b = 0 ↔ a.region = b.region ∧ a.ch = b.ch := by
  unfold teCmp orI
  by_cases h : cmpS a.region b.region = 0
  · rw [if_pos h, cmpI_zero]
    exact ⟨fun h2 => ⟨cmpS_zero h, h2⟩, fun h2 => h2.2⟩
  · rw [if_neg h]
    refine ⟨fun h2 => absurd h2 h, fun h2 => ?_⟩
    rw [h2.1, cmpS_self] at h; exact absurd rfl h
theorem teCmp_swap (a b : TermD) : teCmp b a = - teCmp a b := by
  unfold teCmp orI
  have h1 := cmpS_swap a.region b.region
  have h2 := cmpI_swap a.ch b.ch
  split <;> split <;> omega
theorem teCmp_trans {a b c : TermD} (h1 : teCmp a b < 0) (h2 : teCmp b c < 0) : teCmp a c < 0 := by
  rw [teCmp_lt_iff] at *
  rcases h1 with h1 | ⟨e1, h1⟩
  · rcases h2 with h2 | ⟨e2, h2⟩
    · exact Or.inl (cmpS_trans h1 h2)
    · rw [← e2]; exact Or.inl h1
  · rcases h2 with h2 | ⟨e2, h2⟩
    · rw [e1]; exact Or.inl h2
    · exact Or.inr ⟨e1.trans e2, by omega⟩
theorem ter_steps {ts : List TermD} (h : TerSorted ts) (k : TermD) : ∀ i j (hi : i < ts.length) (hj : j < ts.length), i < j → 0 ≤ teCmp ts[i] k → 0 < teCmp ts[j] k := by
  intro i j hi hj hij h0
  have h1 := List.pairwise_iff_getElem.1 h i j hi hj hij
  have h2 := teCmp_swap ts[i] k
  have h3 := teCmp_swap k ts[j]
  have h4 : teCmp k ts[j] < 0 := by
    rcases Int.lt_or_eq_of_le (show teCmp k ts[i] ≤ 0 by omega) with h4 | h4
    · exact teCmp_trans h4 h1
    · have e := teCmp_zero.1 h4
      rw [teCmp_lt_iff] at h1 ⊢
      rcases h1 with h1 | ⟨e1, h1⟩
      · rw [e.1]; exact Or.inl h1
      · exact Or.inr ⟨e.1.trans e1, by omega⟩
  omega
theorem hasAt_some {D : Type} {c : D → Int} {ds : List D} {m : Nat} (h : hasAt c ds m = true) : ∃ hl : m < ds.length, ds[m]? = some ds[m] := by
  unfold hasAt at h
  cases e : ds[m]? with
  | none => rw [e] at h; cases h
  | some d => obtain ⟨hl, e2⟩ := List.getElem?_eq_some_iff.1 e; exact ⟨hl, by rw [e2]⟩
theorem keep2 {w w1 : World} {T : TypeId} {xs : Array Value} (hb : Below (w.alloc (.cells xs T)).heap.size (w.alloc (.cells xs T)) w1) : w1.heap[w.heap.size]? = some (.cells xs T (0, 0)) := (hb.block _ (by simp)).trans (heap_alloc_new _ _)
theorem cell_h {w : World} {g : Nat} {T : TypeId} {xs : Array Value} {f : Nat × Nat} (h : w.heap[g]? = some (.cells xs T f)) (m : Nat) {v : Value} (hv : xs[m]? = some v) : w.cell? ⟨g, m, none⟩ = some v := by
  simp only [World.cell?, h]; exact hv
theorem froz_h {w : World} {g : Nat} {T : TypeId} {xs : Array Value} (h : w.heap[g]? = some (.cells xs T (0, 0))) (m : Nat) : w.frozen? ⟨g, m, none⟩ = false := by
  simp [World.frozen?, h]
theorem set2 {w : World} {g : Nat} {T : TypeId} {x0 x1 : Value} (h : w.heap[g]? = some (.cells #[x0, x1] T (0, 0))) (a0 a1 : Value) : ((w.setCell ⟨g, 0, none⟩ a0).setCell ⟨g, 1, none⟩ a1).heap[g]? = some (.cells #[a0, a1] T (0, 0)) := by
  simp [World.setCell, Array.getElem?_modify, h]
theorem set3 {w : World} {g : Nat} {T : TypeId} {x0 x1 x2 : Value} (h : w.heap[g]? = some (.cells #[x0, x1, x2] T (0, 0))) (a0 a1 a2 : Value) : (((w.setCell ⟨g, 0, none⟩ a0).setCell ⟨g, 1, none⟩ a1).setCell ⟨g, 2, none⟩ a2).heap[g]? = some (.cells #[a0, a1, a2] T (0, 0)) := by
  simp [World.setCell, Array.getElem?_modify, h]
theorem set5 {w : World} {g : Nat} {T : TypeId} {x0 x1 x2 x3 x4 : Value} (h : w.heap[g]? = some (.cells #[x0, x1, x2, x3, x4] T (0, 0))) (a0 a1 a2 a3 a4 : Value) : (((((w.setCell ⟨g, 0, none⟩ a0).setCell ⟨g, 1, none⟩ a1).setCell ⟨g, 2, none⟩ a2).setCell ⟨g, 3, none⟩ a3).setCell ⟨g, 4, none⟩ a4).heap[g]? = some (.cells #[a0, a1, a2, a3, a4] T (0, 0)) := by
  simp [World.setCell, Array.getElem?_modify, h]
theorem set8 {w : World} {g : Nat} {T : TypeId} {x0 x1 x2 x3 x4 x5 x6 x7 : Value} (h : w.heap[g]? = some (.cells #[x0, x1, x2, x3, x4, x5, x6, x7] T (0, 0))) (a0 a1 a2 a3 a4 a5 a6 a7 : Value) : ((((((((w.setCell ⟨g, 0, none⟩ a0).setCell ⟨g, 1, none⟩ a1).setCell ⟨g, 2, none⟩ a2).setCell ⟨g, 3, none⟩ a3).setCell ⟨g, 4, none⟩ a4).setCell ⟨g, 5, none⟩ a5).setCell ⟨g, 6, none⟩ a6).setCell ⟨g, 7, none⟩ a7).heap[g]? = some (.cells #[a0, a1, a2, a3, a4, a5, a6, a7] T (0, 0)) := by
  simp [World.setCell, Array.getElem?_modify, h]
set_option maxHeartbeats 2000000 in
set_option maxRecDepth 100000 in
theorem purposeOf_any (H : Frz) (A : Option Addr) (cap : Nat) (ps : List PurD) (name : ByteArray) (w : World) (hH : H.In w) (hP : PolIn H A ps) (hs : PurSorted ps) (hl : ps.length ≤ 1000000) :
    Calls Tryz.prog 57 #[.slice A ps.length cap, .string name] w fun e w' => e = .returned (.tuple #[purV (purF ps name), .bool (purF ps name).isSome]) ∧ Below w.heap.size w w' := by
  obtain ⟨m, -, hm, hlo, hhi, hf⟩ := split_at (fun p : PurD => cmpS p.name name) ps (pur_steps hs name)
  have hF := hf (fun p => eqS p.name name) (fun d => by rw [eqS_iff]; exact ⟨fun e => by rw [e]; exact cmpS_self _, cmpS_zero⟩)
  have HF : Hid (purF ps name = if hasAt (fun p : PurD => cmpS p.name name) ps m = true then ps[m]? else none) := hF
  have HB := Lib.hid (fun W hW => bsf_Pur H fPu 93 (.string name) (fun p => cmpS p.name name) ps (fun W d _ _ => purName_any d name W) (fun _ _ _ => by kernel_rfl) A cap W hW hP.row hl m hm hlo hhi)
  have HIN := Lib.hid (hH.alloc (.cells #[.string ⟨#[]⟩, .slice none 0 0] 58))
  have HR := Lib.hid hP.row
  have hb0 := Lib.hid (new1 (w := w) (.cells #[.string ⟨#[]⟩, .slice none 0 0] 58))
  clear hf hF hlo hhi hP hs hH
  go_enter Tryz.func57, Tryz.ntmps57
  go_wp2_with fail
  refine (HB.out _ HIN.out).mono ?_
  rintro e w1 ⟨rfl, hb⟩
  have hk := keep2 hb
  have x0 : w1.cell? ⟨w.heap.size, 0, none⟩ = some (.string ⟨#[]⟩) := cell_h hk 0 rfl
  have x1 : w1.cell? ⟨w.heap.size, 1, none⟩ = some (.slice none 0 0) := cell_h hk 1 rfl
  have y0 := froz_h hk 0
  have y1 := froz_h hk 1
  have hin1 := HIN.out.below hb
  have hb1 := Lib.hid (hb0.out.trans (hb.mono hb0.out.size))
  have hz1 : w.heap.size < w1.heap.size := lt_of_heap hk
  have HK9 := Lib.hid (fun a0 a1 => set2 hk a0 a1)
  clear hk hb
  generalize hgh : hasAt (fun p : PurD => cmpS p.name name) ps m = hh at HF
  have HGH := Lib.hid hgh
  clear hgh
  cases hh with
  | true =>
    obtain ⟨hml, hme⟩ := hasAt_some HGH.out
    obtain ⟨b, off, rfl, hbl, hc⟩ := HR.out.at_ hin1 hml (by omega)
    have c0 : w1.cell? ⟨b, off + m * 2, none⟩ = some (.string ps[m].name) := hc 0 (by omega)
    have c1 : w1.cell? ⟨b, off + m * 2 + 1, none⟩ = some (.slice ps[m].adr ps[m].terms.length ps[m].cap) := hc 1 (by omega)
    have HV : Hid (purF ps name = some ps[m]) := HF.out.trans (by simp [hme])
    have hb2 := Lib.hid ((hb1.out.setCell (p := ⟨w.heap.size, 0, none⟩) (Nat.le_refl _) (.string ps[m].name)).setCell (p := ⟨w.heap.size, 1, none⟩) (Nat.le_refl _) (.slice ps[m].adr ps[m].terms.length ps[m].cap))
    clear hc hme
    generalize ps[m] = p at c0 c1 HV hb2
    go_wp2_with fail
    have z0 := cell_h (HK9.out (.string p.name) (.slice p.adr p.terms.length p.cap)) 0 (v := .string p.name) rfl
    have z1 := cell_h (HK9.out (.string p.name) (.slice p.adr p.terms.length p.cap)) 1 (v := .slice p.adr p.terms.length p.cap) rfl
    refine bodyPost_ret (v := .tuple #[.agg #[.string p.name, .slice p.adr p.terms.length p.cap], .bool true]) (by simp [results, Tryz.results57, go_sem, z0, z1]) rfl ⟨by rw [HV.out]; rfl, hb2.out⟩
  | false =>
    have HV : Hid (purF ps name = none) := HF.out
    have hb2 := Lib.hid ((hb1.out.setCell (p := ⟨w.heap.size, 0, none⟩) (Nat.le_refl _) (.string ⟨#[]⟩)).setCell (p := ⟨w.heap.size, 1, none⟩) (Nat.le_refl _) (.slice none 0 0))
    go_wp2_with fail
    have z0 := cell_h (HK9.out (.string ⟨#[]⟩) (.slice none 0 0)) 0 (v := .string ⟨#[]⟩) rfl
    have z1 := cell_h (HK9.out (.string ⟨#[]⟩) (.slice none 0 0)) 1 (v := .slice none 0 0) rfl
    refine bodyPost_ret (v := .tuple #[.agg #[.string ⟨#[]⟩, .slice none 0 0], .bool false]) (by simp [results, Tryz.results57, go_sem, z0, z1]) rfl ⟨by rw [HV.out]; rfl, hb2.out⟩
set_option maxHeartbeats 2000000 in
set_option maxRecDepth 100000 in
theorem termOf_any (H : Frz) (A : Option Addr) (cap : Nat) (ps : List PurD) (name region : ByteArray) (ch : Int) (w : World) (hH : H.In w) (hP : PolIn H A ps) (hs : PurSorted ps) (hts : ∀ p ∈ ps, TerSorted p.terms) (hl : ps.length ≤ 1000000) :
    Calls Tryz.prog 68 #[.slice A ps.length cap, .string name, .string region, .int .i64 ch] w fun e w' => e = .returned (.tuple #[terV (termF ps name region ch), .bool (termF ps name region ch).isSome]) ∧ Below w.heap.size w w' := by
  have HPU := Lib.hid (fun W hW => purposeOf_any H A cap ps name W hW hP hs hl)
  have HIN := Lib.hid (hH.alloc (.cells #[.string ⟨#[]⟩, .int .i64 0, .bool false, .int .i64 0, .int .i64 0] 60))
  have hb0 := Lib.hid (new1 (w := w) (.cells #[.string ⟨#[]⟩, .int .i64 0, .bool false, .int .i64 0, .int .i64 0] 60))
  -- what stands in the purpose
  have hT : Hid (∃ (A2 : Option Addr) (c2 : Nat) (nm : ByteArray) (ts : List TermD), purV (purF ps name) = .agg #[.string nm, .slice A2 ts.length c2] ∧ Rw H A2 5 fTe ts ∧ TerSorted ts ∧ ts.length ≤ 1000000 ∧ termF ps name region ch = teF ts region ch) := by
    show ∃ _, _
    unfold termF purF
    cases e : ps.find? fun p => eqS p.name name with
    | none => exact ⟨none, 0, ⟨#[]⟩, [], rfl, Rw.nil, List.Pairwise.nil, by simp, rfl⟩
    | some p =>
      have hp := List.mem_of_find?_eq_some e
      exact ⟨p.adr, p.cap, p.name, p.terms, rfl, hP.terms p hp, hts p hp, by have := (hP.size p hp).2.1; omega, rfl⟩
  obtain ⟨A2, c2, nm, ts, hpv, hR2, hts2, htl, htf⟩ := hT.out
  obtain ⟨m, -, hm, hlo, hhi, hf⟩ := split_at (fun t : TermD => teCmp t ⟨region, ch, false, 0, 0⟩) ts (ter_steps hts2 _)
  have hF := hf (fun t => eqS t.region region && decide (t.ch = ch)) (fun d => by rw [Bool.and_eq_true, eqS_iff, decide_eq_true_iff, teCmp_zero])
  have HF : Hid (termF ps name region ch = if hasAt (fun t : TermD => teCmp t ⟨region, ch, false, 0, 0⟩) ts m = true then ts[m]? else none) := htf.trans hF
  have HB := Lib.hid (fun W hW => bsf_Ter H fTe 84 (fTe ⟨region, ch, false, 0, 0⟩) (fun t => teCmp t ⟨region, ch, false, 0, 0⟩) ts (fun W d _ _ => termOrder_any d ⟨region, ch, false, 0, 0⟩ W) (fun _ _ _ => by kernel_rfl) A2 c2 W hW hR2 htl m hm hlo hhi)
  have HPV := Lib.hid hpv
  have HR2 := Lib.hid hR2
  clear hT hpv hR2 hts2 htf hlo hhi hf hF hP hs hts hH
  go_enter Tryz.func68, Tryz.ntmps68
  go_wp2_with fail
  refine (HPU.out _ HIN.out).mono ?_
  rintro e w1 ⟨rfl, hb⟩
  rw [HPV.out]
  have hk := keep2 hb
  have hin1 := HIN.out.below hb
  have hb1 := Lib.hid (hb0.out.trans (hb.mono hb0.out.size))
  have HB2 := Lib.hid (fun W hW => hb1.out.trans (Below.mono (w := w1) (w' := W) hW hb1.out.size))
  have hz1 : w.heap.size < w1.heap.size := lt_of_heap hk
  have HK := Lib.hid hk
  have HIN2 := Lib.hid (hin1.alloc (.cells #[.string nm, .slice A2 ts.length c2] 58))
  have hbp := Lib.hid (new1 (w := w1) (.cells #[.string nm, .slice A2 ts.length c2] 58))
  clear hk hb HPU HPV HIN hin1
  generalize (purF ps name).isSome = hasP
  go_wp2_with fail
  refine (HB.out _ HIN2.out).mono ?_
  rintro e w2 ⟨rfl, hb⟩
  have hk2 := keep2 hb
  have v0 : w2.cell? ⟨w1.heap.size, 0, none⟩ = some (.string nm) := cell_h hk2 0 rfl
  have v1 : w2.cell? ⟨w1.heap.size, 1, none⟩ = some (.slice A2 ts.length c2) := cell_h hk2 1 rfl
  have hbb := Lib.hid (hbp.out.trans (hb.mono hbp.out.size))
  have hk := (hbb.out.block _ hz1).trans HK.out
  have x0 : w2.cell? ⟨w.heap.size, 0, none⟩ = some (.string ⟨#[]⟩) := cell_h hk 0 rfl
  have x1 : w2.cell? ⟨w.heap.size, 1, none⟩ = some (.int .i64 0) := cell_h hk 1 rfl
  have x2 : w2.cell? ⟨w.heap.size, 2, none⟩ = some (.bool false) := cell_h hk 2 rfl
  have x3 : w2.cell? ⟨w.heap.size, 3, none⟩ = some (.int .i64 0) := cell_h hk 3 rfl
  have x4 : w2.cell? ⟨w.heap.size, 4, none⟩ = some (.int .i64 0) := cell_h hk 4 rfl
  have y0 := froz_h hk 0
  have y1 := froz_h hk 1
  have y2 := froz_h hk 2
  have y3 := froz_h hk 3
  have y4 := froz_h hk 4
  have hz2 : w.heap.size < w2.heap.size := lt_of_heap hk
  have hne : ¬ w1.heap.size = w.heap.size := by omega
  have hne' : ¬ w.heap.size = w1.heap.size := by omega
  have hin2 := HIN2.out.below hb
  have HB5 := Lib.hid (HB2.out w2 hbb.out)
  have HST : Hid (∀ a0 a1 a2 a3 a4 : Value, Below w.heap.size w (((((w2.setCell ⟨w.heap.size, 0, none⟩ a0).setCell ⟨w.heap.size, 1, none⟩ a1).setCell ⟨w.heap.size, 2, none⟩ a2).setCell ⟨w.heap.size, 3, none⟩ a3).setCell ⟨w.heap.size, 4, none⟩ a4)) := fun a0 a1 a2 a3 a4 => ((((HB5.out.setCell (p := ⟨w.heap.size, 0, none⟩) (Nat.le_refl _) a0).setCell (p := ⟨w.heap.size, 1, none⟩) (Nat.le_refl _) a1).setCell (p := ⟨w.heap.size, 2, none⟩) (Nat.le_refl _) a2).setCell (p := ⟨w.heap.size, 3, none⟩) (Nat.le_refl _) a3).setCell (p := ⟨w.heap.size, 4, none⟩) (Nat.le_refl _) a4
  have HK9 := Lib.hid (fun a0 a1 a2 a3 a4 => set5 hk a0 a1 a2 a3 a4)
  clear hk hb hk2 hz1
  generalize hgh : hasAt (fun t : TermD => teCmp t ⟨region, ch, false, 0, 0⟩) ts m = hh at HF
  have HGH := Lib.hid hgh
  clear hgh
  cases hh with
  | true =>
    obtain ⟨hml, hme⟩ := hasAt_some HGH.out
    obtain ⟨b, off, rfl, hbl, hc⟩ := HR2.out.at_ hin2 hml (by omega)
    have c0 : w2.cell? ⟨b, off + m * 5, none⟩ = some (.string ts[m].region) := hc 0 (by omega)
    have c1 : w2.cell? ⟨b, off + m * 5 + 1, none⟩ = some (.int .i64 ts[m].ch) := hc 1 (by omega)
    have c2 : w2.cell? ⟨b, off + m * 5 + 2, none⟩ = some (.bool ts[m].free) := hc 2 (by omega)
    have c3 : w2.cell? ⟨b, off + m * 5 + 3, none⟩ = some (.int .i64 ts[m].days) := hc 3 (by omega)
    have c4 : w2.cell? ⟨b, off + m * 5 + 4, none⟩ = some (.int .i64 ts[m].wait) := hc 4 (by omega)
    have HV : Hid (termF ps name region ch = some ts[m]) := HF.out.trans (by simp [hme])
    have HFIN := Lib.hid (HST.out (.string ts[m].region) (.int .i64 ts[m].ch) (.bool ts[m].free) (.int .i64 ts[m].days) (.int .i64 ts[m].wait))
    clear hc hme HF HST
    generalize ts[m] = p at *
    go_wp2_with fail
    have z0 := cell_h (HK9.out (.string p.region) (.int .i64 p.ch) (.bool p.free) (.int .i64 p.days) (.int .i64 p.wait)) 0 (v := .string p.region) rfl
    have z1 := cell_h (HK9.out (.string p.region) (.int .i64 p.ch) (.bool p.free) (.int .i64 p.days) (.int .i64 p.wait)) 1 (v := .int .i64 p.ch) rfl
    have z2 := cell_h (HK9.out (.string p.region) (.int .i64 p.ch) (.bool p.free) (.int .i64 p.days) (.int .i64 p.wait)) 2 (v := .bool p.free) rfl
    have z3 := cell_h (HK9.out (.string p.region) (.int .i64 p.ch) (.bool p.free) (.int .i64 p.days) (.int .i64 p.wait)) 3 (v := .int .i64 p.days) rfl
    have z4 := cell_h (HK9.out (.string p.region) (.int .i64 p.ch) (.bool p.free) (.int .i64 p.days) (.int .i64 p.wait)) 4 (v := .int .i64 p.wait) rfl
    refine bodyPost_ret (v := .tuple #[.agg #[.string p.region, .int .i64 p.ch, .bool p.free, .int .i64 p.days, .int .i64 p.wait], .bool true]) (by simp [results, Tryz.results68, go_sem, z0, z1, z2, z3, z4]) rfl ⟨by rw [HV.out]; rfl, HFIN.out⟩
  | false =>
    have HV : Hid (termF ps name region ch = none) := HF.out
    have HFIN := Lib.hid (HST.out (.string ⟨#[]⟩) (.int .i64 0) (.bool false) (.int .i64 0) (.int .i64 0))
    clear HF HST
    go_wp2_with fail
    have z0 := cell_h (HK9.out (.string ⟨#[]⟩) (.int .i64 0) (.bool false) (.int .i64 0) (.int .i64 0)) 0 (v := .string ⟨#[]⟩) rfl
    have z1 := cell_h (HK9.out (.string ⟨#[]⟩) (.int .i64 0) (.bool false) (.int .i64 0) (.int .i64 0)) 1 (v := .int .i64 0) rfl
    have z2 := cell_h (HK9.out (.string ⟨#[]⟩) (.int .i64 0) (.bool false) (.int .i64 0) (.int .i64 0)) 2 (v := .bool false) rfl
    have z3 := cell_h (HK9.out (.string ⟨#[]⟩) (.int .i64 0) (.bool false) (.int .i64 0) (.int .i64 0)) 3 (v := .int .i64 0) rfl
    have z4 := cell_h (HK9.out (.string ⟨#[]⟩) (.int .i64 0) (.bool false) (.int .i64 0) (.int .i64 0)) 4 (v := .int .i64 0) rfl
    refine bodyPost_ret (v := .tuple #[.agg #[.string ⟨#[]⟩, .int .i64 0, .bool false, .int .i64 0, .int .i64 0], .bool false]) (by simp [results, Tryz.results68, go_sem, z0, z1, z2, z3, z4]) rfl ⟨by rw [HV.out]; rfl, HFIN.out⟩
theorem upTo_steps {l : List StD} (hs : l.Pairwise fun a b => a.at_ ≤ b.at_) (at_ : Int) : ∀ i j (hi : i < l.length) (hj : j < l.length), i < j → 0 ≤ cmpI l[i].at_ (at_ + 1) → 0 ≤ cmpI l[j].at_ (at_ + 1) := by
  intro i j hi hj hij h0
  have h1 := List.pairwise_iff_getElem.1 hs i j hi hj hij
  have h2 : ¬ l[i].at_ < at_ + 1 := fun h => by have := cmpI_lt.2 h; omega
  apply Classical.byContradiction
  intro h
  have := cmpI_lt.1 (show cmpI l[j].at_ (at_ + 1) < 0 by omega)
  omega
theorem upTo_len {l : List StD} (at_ : Int) : upTo l at_ = l.takeWhile fun s => decide (cmpI s.at_ (at_ + 1) < 0) := by
  unfold upTo
  congr 1
  funext s
  rw [Bool.eq_iff_iff]
  simp only [decide_eq_true_iff, cmpI_lt]
  omega
theorem upTo_pre {l : List StD} (at_ : Int) : upTo l at_ = l.take (upTo l at_).length := by
  have h : (upTo l at_) ++ (l.dropWhile fun s => decide (s.at_ ≤ at_)) = l := List.takeWhile_append_dropWhile
  have h2 : ((upTo l at_) ++ (l.dropWhile fun s => decide (s.at_ ≤ at_))).take (upTo l at_).length = upTo l at_ := List.take_left' rfl
  rw [h] at h2
  exact h2.symm
theorem upTo_cut {l : List StD} (hs : l.Pairwise fun a b => a.at_ ≤ b.at_) (at_ : Int) : (upTo l at_).length ≤ l.length ∧ (∀ i (h : i < l.length), i < (upTo l at_).length → cmpI l[i].at_ (at_ + 1) < 0) ∧ (∀ i (h : i < l.length), (upTo l at_).length ≤ i → 0 ≤ cmpI l[i].at_ (at_ + 1)) := by
  have e := List.takeWhile_append_dropWhile (p := fun s : StD => decide (s.at_ ≤ at_)) (l := l)
  refine ⟨(List.takeWhile_sublist _).length_le, fun i h hi => ?_, fun i h hi => ?_⟩
  · have h1 : l[i]? = (upTo l at_)[i]? := by
      have h2 : ((upTo l at_) ++ (l.dropWhile fun s => decide (s.at_ ≤ at_)))[i]? = (upTo l at_)[i]? := List.getElem?_append_left hi
      rw [show (upTo l at_) ++ (l.dropWhile fun s => decide (s.at_ ≤ at_)) = l from e] at h2
      exact h2
    rw [List.getElem?_eq_getElem h, List.getElem?_eq_getElem hi] at h1
    injection h1 with h1
    have h3 := List.all_eq_true.1 (List.all_takeWhile (p := fun s : StD => decide (s.at_ ≤ at_)) (l := l)) _ (List.getElem_mem hi)
    have h4 : (upTo l at_)[i].at_ ≤ at_ := by simpa using h3
    rw [cmpI_lt, h1]; omega
  · generalize hk : (upTo l at_).length = k at hi
    have hkl : k < l.length := by omega
    have hd : (l.dropWhile fun s => decide (s.at_ ≤ at_)).head? = some l[k] := by
      have : l[k]? = (l.dropWhile fun s => decide (s.at_ ≤ at_))[0]? := by
        conv => lhs; rw [← e]
        rw [List.getElem?_append_right (by show (upTo l at_).length ≤ k; omega), show k - (l.takeWhile fun s => decide (s.at_ ≤ at_)).length = 0 from by show k - (upTo l at_).length = 0; omega]
      rw [List.head?_eq_getElem?, ← this, List.getElem?_eq_getElem hkl]
    have h0 : ¬ l[k].at_ ≤ at_ := by
      have := List.head?_dropWhile_not (fun s : StD => decide (s.at_ ≤ at_)) l
      rw [hd] at this
      simpa using this
    have hki : l[k].at_ ≤ l[i].at_ := by
      rcases Nat.lt_or_eq_of_le hi with h1 | h1
      · exact List.pairwise_iff_getElem.1 hs k i hkl h h1
      · subst h1; exact Int.le_refl _
    apply Classical.byContradiction
    intro hc
    have := cmpI_lt.1 (show cmpI l[i].at_ (at_ + 1) < 0 by omega)
    omega
theorem Rw.take {D : Type} {H : Frz} {A : Option Addr} {k : Nat} {f : D → Nat → Value} {ds : List D} (h : Rw H A k f ds) (n : Nat) : Rw H A k f (ds.take n) := fun i hi => by
  have hi2 : i < ds.length := by simp at hi; omega
  obtain ⟨b, off, e, hc⟩ := h i hi2
  refine ⟨b, off, e, fun j hj => ?_⟩
  rw [hc j hj, List.getElem_take]
set_option maxHeartbeats 1000000 in
theorem upTo_any (H : Frz) (A : Option Addr) (cap : Nat) (l : List StD) (at_ : Int) (w : World) (hH : H.In w) (hR : Rw H A 8 fSt l) (hs : l.Pairwise fun a b => a.at_ ≤ b.at_) (hl : l.length ≤ 1000000) (hcap : l.length ≤ cap) (h0 : -1000000000000 ≤ at_) (h1 : at_ ≤ 1000000000000) :
    Calls Tryz.prog 41 #[.slice A l.length cap, .int .i64 at_] w fun e w' => e = .returned (.slice A (upTo l at_).length cap) ∧ Below w.heap.size w w' := by
  obtain ⟨hm, hlo, hhi⟩ := upTo_cut hs at_
  have HB := Lib.hid (bsf_Sta H fSt 73 (.int .i64 (at_ + 1)) (fun s => cmpI s.at_ (at_ + 1)) l (fun W d _ _ => upToC_any d (at_ + 1) W) (fun _ _ _ => by kernel_rfl) A cap w hH hR hl (upTo l at_).length hm hlo hhi)
  have hm2 : (upTo l at_).length ≤ cap := by omega
  generalize hasAt (fun s : StD => cmpI s.at_ (at_ + 1)) l (upTo l at_).length = q at HB
  generalize (upTo l at_).length = n at *
  have hn1 : (n : Int) ≤ cap := by omega
  clear hlo hhi hs hR hH
  go_enter Tryz.func41, Tryz.ntmps41
  go_wp2_with fail
  refine HB.out.mono ?_
  rintro e w1 ⟨rfl, hb⟩
  have HB1 := Lib.hid hb
  clear hb HB
  cases A with
  | none =>
    go_wp2_with fail
    go_ret
    exact ⟨rfl, HB1.out⟩
  | some a =>
    go_wp2_with fail
    go_ret
    exact ⟨rfl, HB1.out⟩
end Go.Proofs.YtmlpfbffecdepaaGreatDoor

/- Consents: objections, withdrawals, grants, confirmations. -/
namespace Go.Proofs.YtmlpfbffecdepaaGreatDoor
set_option linter.unusedVariables false
open Go.RowKit
theorem below_set2 {w w1 : World} {B g : Nat} (h : Below B w w1) (hg : B ≤ g) (a0 a1 : Value) : Below B w ((w1.setCell ⟨g, 0, none⟩ a0).setCell ⟨g, 1, none⟩ a1) := ((h.setCell (p := ⟨g, 0, none⟩) hg a0).setCell (p := ⟨g, 1, none⟩) hg a1)
theorem below_set3 {w w1 : World} {B g : Nat} (h : Below B w w1) (hg : B ≤ g) (a0 a1 a2 : Value) : Below B w (((w1.setCell ⟨g, 0, none⟩ a0).setCell ⟨g, 1, none⟩ a1).setCell ⟨g, 2, none⟩ a2) := (((h.setCell (p := ⟨g, 0, none⟩) hg a0).setCell (p := ⟨g, 1, none⟩) hg a1).setCell (p := ⟨g, 2, none⟩) hg a2)
theorem below_set5 {w w1 : World} {B g : Nat} (h : Below B w w1) (hg : B ≤ g) (a0 a1 a2 a3 a4 : Value) : Below B w (((((w1.setCell ⟨g, 0, none⟩ a0).setCell ⟨g, 1, none⟩ a1).setCell ⟨g, 2, none⟩ a2).setCell ⟨g, 3, none⟩ a3).setCell ⟨g, 4, none⟩ a4) := (((((h.setCell (p := ⟨g, 0, none⟩) hg a0).setCell (p := ⟨g, 1, none⟩) hg a1).setCell (p := ⟨g, 2, none⟩) hg a2).setCell (p := ⟨g, 3, none⟩) hg a3).setCell (p := ⟨g, 4, none⟩) hg a4)
theorem below_set8 {w w1 : World} {B g : Nat} (h : Below B w w1) (hg : B ≤ g) (a0 a1 a2 a3 a4 a5 a6 a7 : Value) : Below B w ((((((((w1.setCell ⟨g, 0, none⟩ a0).setCell ⟨g, 1, none⟩ a1).setCell ⟨g, 2, none⟩ a2).setCell ⟨g, 3, none⟩ a3).setCell ⟨g, 4, none⟩ a4).setCell ⟨g, 5, none⟩ a5).setCell ⟨g, 6, none⟩ a6).setCell ⟨g, 7, none⟩ a7) := ((((((((h.setCell (p := ⟨g, 0, none⟩) hg a0).setCell (p := ⟨g, 1, none⟩) hg a1).setCell (p := ⟨g, 2, none⟩) hg a2).setCell (p := ⟨g, 3, none⟩) hg a3).setCell (p := ⟨g, 4, none⟩) hg a4).setCell (p := ⟨g, 5, none⟩) hg a5).setCell (p := ⟨g, 6, none⟩) hg a6).setCell (p := ⟨g, 7, none⟩) hg a7)
theorem objF_snoc {l : List StD} {i : Nat} (h : i < l.length) : objF (l.take (i + 1)) = objStep (objF (l.take i)) l[i] := by
  unfold objF
  rw [List.take_succ_eq_append_getElem h, List.foldl_append]
  rfl
set_option maxHeartbeats 2000000 in
set_option maxRecDepth 100000 in
theorem objected_any (H : Frz) (A : Option Addr) (cap : Nat) (l : List StD) (w : World) (hH : H.In w) (hR : Rw H A 8 fSt l) (hl : l.length ≤ 1000000) :
    Calls Tryz.prog 70 #[.slice A l.length cap] w fun e w' => e = .returned (.tuple #[.int .i64 (objF l).no, .bool (objF l).is]) ∧ Below w.heap.size w w' := by
  have HR := Lib.hid hR
  have HH := Lib.hid hH
  clear hR hH
  go_enter Tryz.func70, Tryz.ntmps70
  go_wp2_with fail
  go_loopw [4, 5, 6, 11] (fun a b c t wr => ∃ (i : Nat) (o : ObjD), i ≤ l.length ∧ t = .int .i64 i ∧ a = .int .i64 o.no ∧ b = .int .i64 o.last ∧ c = .bool o.is ∧ Hid (o = objF (l.take i)) ∧ Hid (Below w.heap.size w wr)) (fun _ _ _ t _ => l.length - (intOf t).toNat)
  case atStart => exact ⟨0, ⟨0, -1, false⟩, by omega, rfl, rfl, rfl, rfl, rfl, Below.refl _ _⟩
  case round =>
    obtain ⟨i, o, hi, rfl, rfl, rfl, rfl, ho, hb⟩ := hrel
    by_cases hlt : i < l.length
    · obtain ⟨b, off, rfl, hbl, hc⟩ := HR.out.at_ (HH.out.below hb.out) hlt (by omega)
      have c0 : wr.cell? ⟨b, off + i * 8, none⟩ = some (.int .i64 l[i].no) := hc 0 (by omega)
      have c1 : wr.cell? ⟨b, off + i * 8 + 1, none⟩ = some (.int .i64 l[i].at_) := hc 1 (by omega)
      have c2 : wr.cell? ⟨b, off + i * 8 + 2, none⟩ = some (.int .i64 l[i].kind) := hc 2 (by omega)
      have c3 : wr.cell? ⟨b, off + i * 8 + 3, none⟩ = some (.string l[i].text) := hc 3 (by omega)
      have c4 : wr.cell? ⟨b, off + i * 8 + 4, none⟩ = some (.string l[i].purp) := hc 4 (by omega)
      have c5 : wr.cell? ⟨b, off + i * 8 + 5, none⟩ = some (.string l[i].region) := hc 5 (by omega)
      have c6 : wr.cell? ⟨b, off + i * 8 + 6, none⟩ = some (.int .i64 l[i].ch) := hc 6 (by omega)
      have c7 : wr.cell? ⟨b, off + i * 8 + 7, none⟩ = some (.int .i64 l[i].what) := hc 7 (by omega)
      have HO : Hid (objF (l.take (i + 1)) = objStep o l[i]) := (objF_snoc hlt).trans (by rw [ho.out])
      clear hc
      generalize l[i] = d at *
      have z0 : (wr.alloc (.cells #[.int .i64 d.no, .int .i64 d.at_, .int .i64 d.kind, .string d.text, .string d.purp, .string d.region, .int .i64 d.ch, .int .i64 d.what] 38)).cell? ⟨wr.heap.size, 0, none⟩ = some (.int .i64 d.no) := newc 0 rfl
      have z1 : (wr.alloc (.cells #[.int .i64 d.no, .int .i64 d.at_, .int .i64 d.kind, .string d.text, .string d.purp, .string d.region, .int .i64 d.ch, .int .i64 d.what] 38)).cell? ⟨wr.heap.size, 1, none⟩ = some (.int .i64 d.at_) := newc 1 rfl
      have z2 : (wr.alloc (.cells #[.int .i64 d.no, .int .i64 d.at_, .int .i64 d.kind, .string d.text, .string d.purp, .string d.region, .int .i64 d.ch, .int .i64 d.what] 38)).cell? ⟨wr.heap.size, 2, none⟩ = some (.int .i64 d.kind) := newc 2 rfl
      have z3 : (wr.alloc (.cells #[.int .i64 d.no, .int .i64 d.at_, .int .i64 d.kind, .string d.text, .string d.purp, .string d.region, .int .i64 d.ch, .int .i64 d.what] 38)).cell? ⟨wr.heap.size, 3, none⟩ = some (.string d.text) := newc 3 rfl
      have z4 : (wr.alloc (.cells #[.int .i64 d.no, .int .i64 d.at_, .int .i64 d.kind, .string d.text, .string d.purp, .string d.region, .int .i64 d.ch, .int .i64 d.what] 38)).cell? ⟨wr.heap.size, 4, none⟩ = some (.string d.purp) := newc 4 rfl
      have z5 : (wr.alloc (.cells #[.int .i64 d.no, .int .i64 d.at_, .int .i64 d.kind, .string d.text, .string d.purp, .string d.region, .int .i64 d.ch, .int .i64 d.what] 38)).cell? ⟨wr.heap.size, 5, none⟩ = some (.string d.region) := newc 5 rfl
      have z6 : (wr.alloc (.cells #[.int .i64 d.no, .int .i64 d.at_, .int .i64 d.kind, .string d.text, .string d.purp, .string d.region, .int .i64 d.ch, .int .i64 d.what] 38)).cell? ⟨wr.heap.size, 6, none⟩ = some (.int .i64 d.ch) := newc 6 rfl
      have z7 : (wr.alloc (.cells #[.int .i64 d.no, .int .i64 d.at_, .int .i64 d.kind, .string d.text, .string d.purp, .string d.region, .int .i64 d.ch, .int .i64 d.what] 38)).cell? ⟨wr.heap.size, 7, none⟩ = some (.int .i64 d.what) := newc 7 rfl
      have HBN := Lib.hid (new1 (w := wr) (.cells #[.int .i64 d.no, .int .i64 d.at_, .int .i64 d.kind, .string d.text, .string d.purp, .string d.region, .int .i64 d.ch, .int .i64 d.what] 38))
      go_upto_region 5 with (fail)
      clear c0 c1 c2 c3 c4 c5 c6 c7
      generalize wr.alloc (.cells #[.int .i64 d.no, .int .i64 d.at_, .int .i64 d.kind, .string d.text, .string d.purp, .string d.region, .int .i64 d.ch, .int .i64 d.what] 38) = W1 at *
      have HB1 := Lib.hid (hb.out.trans (HBN.out.mono hb.out.size))
      clear hb HBN ho
      go_wp2_with fail
      refine (ofChannel_any _ _).mono ?_
      rintro e w' ⟨rfl, rfl⟩
      generalize hq : ofCh d.what = q
      have HQ := Lib.hid hq
      clear hq
      obtain ⟨no, last, is⟩ := o
      cases q with
      | false =>
        go_wp2_with fail
        go_roundw
        case rel => exact ⟨i + 1, ⟨no, last, is⟩, by omega, by go_num, rfl, rfl, rfl, by show _ = _; rw [HO.out]; simp [objStep, HQ.out], HB1⟩
        case measure => simp [intOf]; omega
      | true =>
        by_cases hlast : last < d.at_
        · have h1 : decide (last < d.at_) = true := by simpa using hlast
          go_upto_region 7 with (fail)
          go_quiet (fail)
          have HB2 := Lib.hid (below_drewN HB1.out nq)
          have y0 : (W1.drewN nq).cell? ⟨wr.heap.size, 0, none⟩ = some (.int .i64 d.no) := z0
          have y6 : (W1.drewN nq).cell? ⟨wr.heap.size, 6, none⟩ = some (.int .i64 d.ch) := z6
          have y7 : (W1.drewN nq).cell? ⟨wr.heap.size, 7, none⟩ = some (.int .i64 d.what) := z7
          generalize W1.drewN nq = W2 at HB2 y0 y6 y7
          clear z0 z1 z2 z3 z4 z5 z6 z7 HB1
          by_cases h4 : d.what = 4
          · have h4' : (d.what == 4) = true := by simpa using h4
            have HS : Hid (objF (l.take (i + 1)) = ⟨d.no, d.at_, true⟩) := HO.out.trans (by simp only [objStep, HQ.out]; simp [hlast, h4])
            clear h4 hlast
            go_wp2_with fail
            go_roundw
            case rel => exact ⟨i + 1, ⟨d.no, d.at_, true⟩, by omega, by go_num, rfl, rfl, rfl, HS.out.symm, HB2⟩
            case measure => simp [intOf]; omega
          · have h4' : (d.what == 4) = false := by simpa using h4
            have HS : Hid (objF (l.take (i + 1)) = ⟨0, d.at_, false⟩) := HO.out.trans (by simp only [objStep, HQ.out]; simp [hlast, h4])
            clear h4 hlast
            go_wp2_with fail
            go_roundw
            case rel => exact ⟨i + 1, ⟨0, d.at_, false⟩, by omega, by go_num, rfl, rfl, rfl, HS.out.symm, HB2⟩
            case measure => simp [intOf]; omega
        · have h1 : decide (last < d.at_) = false := by simpa using hlast
          by_cases h4 : d.what = 4 ∧ is = false
          · obtain ⟨h4, rfl⟩ := h4
            have h4' : (d.what == 4) = true := by simpa using h4
            have HS : Hid (objF (l.take (i + 1)) = ⟨d.no, last, true⟩) := HO.out.trans (by simp only [objStep, HQ.out]; simp [hlast, h4])
            clear h4 hlast
            go_wp2_with fail
            go_roundw
            case rel => exact ⟨i + 1, ⟨d.no, last, true⟩, by omega, by go_num, rfl, rfl, rfl, HS.out.symm, HB1⟩
            case measure => simp [intOf]; omega
          · have HS : Hid (objF (l.take (i + 1)) = ⟨no, last, is⟩) := HO.out.trans (by simp only [objStep, HQ.out, if_neg hlast]; rw [if_neg h4]; rfl)
            by_cases h5 : d.what = 4
            · have h4' : (d.what == 4) = true := by simpa using h5
              have h6 : is = true := by cases is <;> simp_all
              subst h6
              clear h4 hlast h5
              go_wp2_with fail
              go_roundw
              case rel => exact ⟨i + 1, ⟨no, last, true⟩, by omega, by go_num, rfl, rfl, rfl, HS.out.symm, HB1⟩
              case measure => simp [intOf]; omega
            · have h4' : (d.what == 4) = false := by simpa using h5
              clear h4 hlast h5
              go_wp2_with fail
              go_roundw
              case rel => exact ⟨i + 1, ⟨no, last, is⟩, by omega, by go_num, rfl, rfl, rfl, HS.out.symm, HB1⟩
              case measure => simp [intOf]; omega
    · have hie : i = l.length := by omega
      subst hie
      have ho2 : Hid (o = objF l) := by have := ho.out; rwa [List.take_length] at this
      go_wp2_with fail
      go_ret2
      exact ⟨by rw [← ho2.out]; simp, hb.out⟩
end Go.Proofs.YtmlpfbffecdepaaGreatDoor

/- Consents: confirmations, the state of a grant. -/
namespace Go.Proofs.YtmlpfbffecdepaaGreatDoor
set_option linter.unusedVariables false
open Go.RowKit
def stV (o : Option StD) : Value := match o with | none => .agg #[.int .i64 0, .int .i64 0, .int .i64 0, .string ⟨#[]⟩, .string ⟨#[]⟩, .string ⟨#[]⟩, .int .i64 0, .int .i64 0] | some d => .agg #[.int .i64 d.no, .int .i64 d.at_, .int .i64 d.kind, .string d.text, .string d.purp, .string d.region, .int .i64 d.ch, .int .i64 d.what]
theorem find_take_none {D : Type} {p : D → Bool} {l : List D} {i : Nat} (h : i < l.length) (h0 : (l.take i).find? p = none) (hp : p l[i] = false) : (l.take (i + 1)).find? p = none := by
  rw [List.take_succ_eq_append_getElem h, List.find?_append, h0]
  simp [hp]
theorem find_take_some {D : Type} {p : D → Bool} {l : List D} {i : Nat} (h : i < l.length) (h0 : (l.take i).find? p = none) (hp : p l[i] = true) : l.find? p = some l[i] := by
  have e : l = l.take i ++ l.drop i := (List.take_append_drop i l).symm
  have : l.find? p = (l.drop i).find? p := by
    conv => lhs; rw [e]
    rw [List.find?_append, h0]; rfl
  rw [this, List.drop_eq_getElem_cons h, List.find?_cons_of_pos hp]
set_option maxHeartbeats 2000000 in
set_option maxRecDepth 100000 in
theorem confirmation_any (H : Frz) (A : Option Addr) (cap : Nat) (l : List StD) (purp : ByteArray) (from_ to : Int) (w : World) (hH : H.In w) (hR : Rw H A 8 fSt l) (hl : l.length ≤ 1000000) :
    Calls Tryz.prog 42 #[.slice A l.length cap, .string purp, .int .i64 from_, .int .i64 to] w fun e w' => e = .returned (.tuple #[stV (coF purp from_ to l), .bool (coF purp from_ to l).isSome]) ∧ Below w.heap.size w w' := by
  have HR := Lib.hid hR
  have HH := Lib.hid (hH.alloc (.cells #[.int .i64 zeroSt.no, .int .i64 zeroSt.at_, .int .i64 zeroSt.kind, .string zeroSt.text, .string zeroSt.purp, .string zeroSt.region, .int .i64 zeroSt.ch, .int .i64 zeroSt.what] 38))
  have HB0 := Lib.hid (new1 (w := w) (.cells #[.int .i64 zeroSt.no, .int .i64 zeroSt.at_, .int .i64 zeroSt.kind, .string zeroSt.text, .string zeroSt.purp, .string zeroSt.region, .int .i64 zeroSt.ch, .int .i64 zeroSt.what] 38))
  have HK0 : Hid (Below (w.alloc (.cells #[.int .i64 zeroSt.no, .int .i64 zeroSt.at_, .int .i64 zeroSt.kind, .string zeroSt.text, .string zeroSt.purp, .string zeroSt.region, .int .i64 zeroSt.ch, .int .i64 zeroSt.what] 38)).heap.size (w.alloc (.cells #[.int .i64 zeroSt.no, .int .i64 zeroSt.at_, .int .i64 zeroSt.kind, .string zeroSt.text, .string zeroSt.purp, .string zeroSt.region, .int .i64 zeroSt.ch, .int .i64 zeroSt.what] 38)) (w.alloc (.cells #[.int .i64 zeroSt.no, .int .i64 zeroSt.at_, .int .i64 zeroSt.kind, .string zeroSt.text, .string zeroSt.purp, .string zeroSt.region, .int .i64 zeroSt.ch, .int .i64 zeroSt.what] 38))) := Below.refl _ _
  clear hR hH
  go_enter Tryz.func42, Tryz.ntmps42
  go_wp2_with fail
  go_loopw [14] (fun t wr => ∃ i : Nat, i ≤ l.length ∧ t = .int .i64 i ∧ Hid ((l.take i).find? (coB purp from_ to) = none) ∧ Hid (Below (w.alloc (.cells #[.int .i64 zeroSt.no, .int .i64 zeroSt.at_, .int .i64 zeroSt.kind, .string zeroSt.text, .string zeroSt.purp, .string zeroSt.region, .int .i64 zeroSt.ch, .int .i64 zeroSt.what] 38)).heap.size (w.alloc (.cells #[.int .i64 zeroSt.no, .int .i64 zeroSt.at_, .int .i64 zeroSt.kind, .string zeroSt.text, .string zeroSt.purp, .string zeroSt.region, .int .i64 zeroSt.ch, .int .i64 zeroSt.what] 38)) wr)) (fun t _ => l.length - (intOf t).toNat)
  case atStart => exact ⟨0, by omega, rfl, rfl, HK0⟩
  case round =>
    obtain ⟨i, hi, rfl, hno, hb⟩ := hrel
    have hk := keep2 hb.out
    have hbw := Lib.hid (HB0.out.trans (hb.out.mono HB0.out.size))
    by_cases hlt : i < l.length
    · obtain ⟨b, off, rfl, hbl, hc⟩ := HR.out.at_ (HH.out.below hb.out) hlt (by omega)
      have c0 : wr.cell? ⟨b, off + i * 8, none⟩ = some (.int .i64 l[i].no) := hc 0 (by omega)
      have c1 : wr.cell? ⟨b, off + i * 8 + 1, none⟩ = some (.int .i64 l[i].at_) := hc 1 (by omega)
      have c2 : wr.cell? ⟨b, off + i * 8 + 2, none⟩ = some (.int .i64 l[i].kind) := hc 2 (by omega)
      have c3 : wr.cell? ⟨b, off + i * 8 + 3, none⟩ = some (.string l[i].text) := hc 3 (by omega)
      have c4 : wr.cell? ⟨b, off + i * 8 + 4, none⟩ = some (.string l[i].purp) := hc 4 (by omega)
      have c5 : wr.cell? ⟨b, off + i * 8 + 5, none⟩ = some (.string l[i].region) := hc 5 (by omega)
      have c6 : wr.cell? ⟨b, off + i * 8 + 6, none⟩ = some (.int .i64 l[i].ch) := hc 6 (by omega)
      have c7 : wr.cell? ⟨b, off + i * 8 + 7, none⟩ = some (.int .i64 l[i].what) := hc 7 (by omega)
      have HN1 := Lib.hid (find_take_none (p := coB purp from_ to) hlt hno.out)
      have HS1 := Lib.hid (find_take_some (p := coB purp from_ to) hlt hno.out)
      clear hc
      generalize l[i] = d at *
      have z0 : (wr.alloc (.cells #[.int .i64 d.no, .int .i64 d.at_, .int .i64 d.kind, .string d.text, .string d.purp, .string d.region, .int .i64 d.ch, .int .i64 d.what] 38)).cell? ⟨wr.heap.size, 0, none⟩ = some (.int .i64 d.no) := newc 0 rfl
      have z1 : (wr.alloc (.cells #[.int .i64 d.no, .int .i64 d.at_, .int .i64 d.kind, .string d.text, .string d.purp, .string d.region, .int .i64 d.ch, .int .i64 d.what] 38)).cell? ⟨wr.heap.size, 1, none⟩ = some (.int .i64 d.at_) := newc 1 rfl
      have z2 : (wr.alloc (.cells #[.int .i64 d.no, .int .i64 d.at_, .int .i64 d.kind, .string d.text, .string d.purp, .string d.region, .int .i64 d.ch, .int .i64 d.what] 38)).cell? ⟨wr.heap.size, 2, none⟩ = some (.int .i64 d.kind) := newc 2 rfl
      have z3 : (wr.alloc (.cells #[.int .i64 d.no, .int .i64 d.at_, .int .i64 d.kind, .string d.text, .string d.purp, .string d.region, .int .i64 d.ch, .int .i64 d.what] 38)).cell? ⟨wr.heap.size, 3, none⟩ = some (.string d.text) := newc 3 rfl
      have z4 : (wr.alloc (.cells #[.int .i64 d.no, .int .i64 d.at_, .int .i64 d.kind, .string d.text, .string d.purp, .string d.region, .int .i64 d.ch, .int .i64 d.what] 38)).cell? ⟨wr.heap.size, 4, none⟩ = some (.string d.purp) := newc 4 rfl
      have z5 : (wr.alloc (.cells #[.int .i64 d.no, .int .i64 d.at_, .int .i64 d.kind, .string d.text, .string d.purp, .string d.region, .int .i64 d.ch, .int .i64 d.what] 38)).cell? ⟨wr.heap.size, 5, none⟩ = some (.string d.region) := newc 5 rfl
      have z6 : (wr.alloc (.cells #[.int .i64 d.no, .int .i64 d.at_, .int .i64 d.kind, .string d.text, .string d.purp, .string d.region, .int .i64 d.ch, .int .i64 d.what] 38)).cell? ⟨wr.heap.size, 6, none⟩ = some (.int .i64 d.ch) := newc 6 rfl
      have z7 : (wr.alloc (.cells #[.int .i64 d.no, .int .i64 d.at_, .int .i64 d.kind, .string d.text, .string d.purp, .string d.region, .int .i64 d.ch, .int .i64 d.what] 38)).cell? ⟨wr.heap.size, 7, none⟩ = some (.int .i64 d.what) := newc 7 rfl
      have HBN := Lib.hid (new1 (w := wr) (.cells #[.int .i64 d.no, .int .i64 d.at_, .int .i64 d.kind, .string d.text, .string d.purp, .string d.region, .int .i64 d.ch, .int .i64 d.what] 38))
      go_upto_region 4 with (fail)
      clear c0 c1 c2 c3 c4 c5 c6 c7
      have HK2 := Lib.hid ((HBN.out.block _ (lt_of_heap hk)).trans hk)
      have hne : ¬ wr.heap.size = w.heap.size := by have := lt_of_heap hk; omega
      generalize wr.alloc (.cells #[.int .i64 d.no, .int .i64 d.at_, .int .i64 d.kind, .string d.text, .string d.purp, .string d.region, .int .i64 d.ch, .int .i64 d.what] 38) = W1 at *
      have HB1 := Lib.hid (hb.out.trans (HBN.out.mono hb.out.size))
      have HBW1 := Lib.hid (hbw.out.trans (HBN.out.mono hbw.out.size))
      clear hb HBN hno hk hbw HK0
      cases h1 : (d.what == 2) with
      | false =>
        have HN := Lib.hid (HN1.out (by simp only [coB]; simp at h1; simp [h1]))
        go_wp2_with fail
        go_roundw
        case rel => exact ⟨i + 1, by omega, by go_num, HN, HB1⟩
        case measure => simp [intOf]; omega
      | true =>
        cases h2 : (d.purp.toList == purp.toList) with
        | false =>
          have HN := Lib.hid (HN1.out (by simp only [coB, eqS, h2]; simp))
          go_wp2_with fail
          go_roundw
          case rel => exact ⟨i + 1, by omega, by go_num, HN, HB1⟩
          case measure => simp [intOf]; omega
        | true =>
          have H1 := Lib.hid (show decide (d.what = 2) = true by simpa using h1)
          have H2 := Lib.hid h2
          go_wp2_with fail
          refine (cwithin_any _ _ _ _).mono ?_
          rintro e w' ⟨rfl, rfl⟩
          generalize h3 : (decide (from_ ≤ d.at_) && decide (d.at_ ≤ to)) = q
          have H3 := Lib.hid h3
          clear h3
          cases q with
          | false =>
            have HN := Lib.hid (HN1.out (by simp only [coB, eqS, H3.out]; simp))
            go_wp2_with fail
            go_roundw
            case rel => exact ⟨i + 1, by omega, by go_num, HN, HB1⟩
            case measure => simp [intOf]; omega
          | true =>
            have HS : Hid (coF purp from_ to l = some d) := HS1.out (by simp only [coB, eqS, H1.out, H2.out, H3.out]; simp)
            have hk := HK2.out
            have x0 : W1.cell? ⟨w.heap.size, 0, none⟩ = some (.int .i64 zeroSt.no) := cell_h hk 0 rfl
            have x1 : W1.cell? ⟨w.heap.size, 1, none⟩ = some (.int .i64 zeroSt.at_) := cell_h hk 1 rfl
            have x2 : W1.cell? ⟨w.heap.size, 2, none⟩ = some (.int .i64 zeroSt.kind) := cell_h hk 2 rfl
            have x3 : W1.cell? ⟨w.heap.size, 3, none⟩ = some (.string zeroSt.text) := cell_h hk 3 rfl
            have x4 : W1.cell? ⟨w.heap.size, 4, none⟩ = some (.string zeroSt.purp) := cell_h hk 4 rfl
            have x5 : W1.cell? ⟨w.heap.size, 5, none⟩ = some (.string zeroSt.region) := cell_h hk 5 rfl
            have x6 : W1.cell? ⟨w.heap.size, 6, none⟩ = some (.int .i64 zeroSt.ch) := cell_h hk 6 rfl
            have x7 : W1.cell? ⟨w.heap.size, 7, none⟩ = some (.int .i64 zeroSt.what) := cell_h hk 7 rfl
            have y0 := froz_h hk 0
            have y1 := froz_h hk 1
            have y2 := froz_h hk 2
            have y3 := froz_h hk 3
            have y4 := froz_h hk 4
            have y5 := froz_h hk 5
            have y6 := froz_h hk 6
            have y7 := froz_h hk 7
            have HK9 := Lib.hid (set8 hk (.int .i64 d.no) (.int .i64 d.at_) (.int .i64 d.kind) (.string d.text) (.string d.purp) (.string d.region) (.int .i64 d.ch) (.int .i64 d.what))
            have HF9 := Lib.hid (below_set8 HBW1.out (Nat.le_refl w.heap.size) (.int .i64 d.no) (.int .i64 d.at_) (.int .i64 d.kind) (.string d.text) (.string d.purp) (.string d.region) (.int .i64 d.ch) (.int .i64 d.what))
            clear hk
            go_wp2_with fail
            have u0 := cell_h HK9.out 0 (v := .int .i64 d.no) rfl
            have u1 := cell_h HK9.out 1 (v := .int .i64 d.at_) rfl
            have u2 := cell_h HK9.out 2 (v := .int .i64 d.kind) rfl
            have u3 := cell_h HK9.out 3 (v := .string d.text) rfl
            have u4 := cell_h HK9.out 4 (v := .string d.purp) rfl
            have u5 := cell_h HK9.out 5 (v := .string d.region) rfl
            have u6 := cell_h HK9.out 6 (v := .int .i64 d.ch) rfl
            have u7 := cell_h HK9.out 7 (v := .int .i64 d.what) rfl
            refine bodyPost_ret (v := .tuple #[.agg #[.int .i64 d.no, .int .i64 d.at_, .int .i64 d.kind, .string d.text, .string d.purp, .string d.region, .int .i64 d.ch, .int .i64 d.what], .bool true]) (by simp [results, Tryz.results42, go_sem, u0, u1, u2, u3, u4, u5, u6, u7]) rfl ⟨by rw [HS.out]; rfl, HF9.out⟩
    · have HS : Hid (coF purp from_ to l = none) := by have := hno.out; rwa [List.take_of_length_le (by omega)] at this
      have x0 : wr.cell? ⟨w.heap.size, 0, none⟩ = some (.int .i64 zeroSt.no) := cell_h hk 0 rfl
      have x1 : wr.cell? ⟨w.heap.size, 1, none⟩ = some (.int .i64 zeroSt.at_) := cell_h hk 1 rfl
      have x2 : wr.cell? ⟨w.heap.size, 2, none⟩ = some (.int .i64 zeroSt.kind) := cell_h hk 2 rfl
      have x3 : wr.cell? ⟨w.heap.size, 3, none⟩ = some (.string zeroSt.text) := cell_h hk 3 rfl
      have x4 : wr.cell? ⟨w.heap.size, 4, none⟩ = some (.string zeroSt.purp) := cell_h hk 4 rfl
      have x5 : wr.cell? ⟨w.heap.size, 5, none⟩ = some (.string zeroSt.region) := cell_h hk 5 rfl
      have x6 : wr.cell? ⟨w.heap.size, 6, none⟩ = some (.int .i64 zeroSt.ch) := cell_h hk 6 rfl
      have x7 : wr.cell? ⟨w.heap.size, 7, none⟩ = some (.int .i64 zeroSt.what) := cell_h hk 7 rfl
      have y0 := froz_h hk 0
      have y1 := froz_h hk 1
      have y2 := froz_h hk 2
      have y3 := froz_h hk 3
      have y4 := froz_h hk 4
      have y5 := froz_h hk 5
      have y6 := froz_h hk 6
      have y7 := froz_h hk 7
      have HK9 := Lib.hid (set8 hk (.int .i64 0) (.int .i64 0) (.int .i64 0) (.string ⟨#[]⟩) (.string ⟨#[]⟩) (.string ⟨#[]⟩) (.int .i64 0) (.int .i64 0))
      have HF9 := Lib.hid (below_set8 hbw.out (Nat.le_refl w.heap.size) (.int .i64 0) (.int .i64 0) (.int .i64 0) (.string ⟨#[]⟩) (.string ⟨#[]⟩) (.string ⟨#[]⟩) (.int .i64 0) (.int .i64 0))
      clear hk
      go_wp2_with fail
      have u0 := cell_h HK9.out 0 (v := .int .i64 0) rfl
      have u1 := cell_h HK9.out 1 (v := .int .i64 0) rfl
      have u2 := cell_h HK9.out 2 (v := .int .i64 0) rfl
      have u3 := cell_h HK9.out 3 (v := .string ⟨#[]⟩) rfl
      have u4 := cell_h HK9.out 4 (v := .string ⟨#[]⟩) rfl
      have u5 := cell_h HK9.out 5 (v := .string ⟨#[]⟩) rfl
      have u6 := cell_h HK9.out 6 (v := .int .i64 0) rfl
      have u7 := cell_h HK9.out 7 (v := .int .i64 0) rfl
      refine bodyPost_ret (v := .tuple #[.agg #[.int .i64 0, .int .i64 0, .int .i64 0, .string ⟨#[]⟩, .string ⟨#[]⟩, .string ⟨#[]⟩, .int .i64 0, .int .i64 0], .bool false]) (by simp [results, Tryz.results42, go_sem, u0, u1, u2, u3, u4, u5, u6, u7]) rfl ⟨by rw [HS.out]; rfl, HF9.out⟩
end Go.Proofs.YtmlpfbffecdepaaGreatDoor

/- clear of rows of structs; a block cut. -/
namespace Go.Proofs.YtmlpfbffecdepaaGreatDoor
set_option linter.unusedVariables false
open Go.RowKit
theorem setCells_eq (w : World) (b : Nat) : ∀ (vs : List Value) (o : Nat) (w : World), w.setCells b o vs = setK w b o vs
  | [], _, _ => rfl
  | v :: r, o, w => by rw [World.setCells, setK]; exact setCells_eq w b r (o + 1) _
/-- 'clear(s)', s a slice of n > 0 elements of k cells. -/
theorem run_clear_rows {P : Program} (w : World) (t e ty : TypeId) (z : Value) (ht : P.underlying t = some (.slice e)) (hv : ∀ w, (zeroValue e).run P w = .ok z w) (k : Nat) (hk : z.cells.size = k) (h0 : 0 < k) (h1 : ∀ v ∈ z.cells.toList, v.oneCell' = true) (b o n c : Nat) (hn : 0 < n)
    (hc : ∀ j, j < n * k → (w.cell? ⟨b, o + j, none⟩).isSome = true) (hf : ∀ j, j < n * k → w.frozen? ⟨b, o + j, none⟩ = false) :
    (Builtin.clear_ #[t] ty #[.slice (some ⟨b, o, none⟩) n c]).run P w = .ok (.tuple #[]) (setK w b o (Builtin.zeroCells z.cells n).toList) := by
  have hl : (Builtin.zeroCells z.cells n).toList.length = n * k := by rw [Array.length_toList, size_zeroCells, hk]
  have hst := run_storeCells_cells (P := P) b o (Builtin.zeroCells z.cells n).toList 0 w (by rw [hl]; simpa using hc) (by rw [hl]; simpa using hf) (by
    intro v hv'
    simp only [Builtin.zeroCells, Array.toList_map, List.mem_map] at hv'
    obtain ⟨i, _, rfl⟩ := hv'
    apply h1
    rw [getElem!_pos z.cells (i % z.cells.size) (Nat.mod_lt _ (by omega))]
    simp)
  simp only [Nat.add_zero] at hst
  obtain ⟨m, rfl⟩ : ∃ m, n = m + 1 := ⟨n - 1, by omega⟩
  simp [Builtin.clear_, run_underlying ht, hv, hst, setCells_eq w b]
/-- The first elements of a block stay, the others are overwritten. -/
theorem KBlk.cut {D : Type} {w : World} {g T k : Nat} {f : D → Nat → Value} {ds : List D} {rest : List Value} (h : KBlk w g T k f ds rest) {i : Nat} (hi : i ≤ ds.length) (l : List Value) (hl : l.length = (ds.length - i) * k) :
    KBlk (setK w g (i * k) l) g T k f (ds.take i) (l ++ rest) := by
  unfold KBlk at h ⊢
  have hm : i * k + (ds.length - i) * k = ds.length * k := by rw [← Nat.add_mul]; congr 1; omega
  have hL := cellsOf_len k f ds
  rw [setK_heap w g (i * k) l h (by simp only [List.size_toArray, List.length_append]; omega)]
  have e : cellsOf k f ds = cellsOf k f (ds.take i) ++ cellsOf k f (ds.drop i) := by rw [← cellsOf_split, List.take_append_drop]
  have l1 : (cellsOf k f (ds.take i)).length = i * k := by rw [cellsOf_len, List.length_take]; congr 1; omega
  congr 3
  rw [e, List.append_assoc, List.append_assoc, List.take_left' l1]
  congr 1
  congr 1
  rw [← List.append_assoc, List.drop_left' (by rw [List.length_append, l1, cellsOf_len, List.length_drop, hl])]
theorem Frz.Le.in_ {H H' : Frz} {W : World} (hl : H.Le H') (h : H'.In W) : H.In W := fun b o e => h b o (hl b o e)
theorem fSt_one (d : StD) (m : Nat) : (fSt d m).oneCell' = true := by
  unfold fSt
  split <;> rfl
end Go.Proofs.YtmlpfbffecdepaaGreatDoor

/- A row of structs in the making, in a function that only makes memory. -/
namespace Go.Proofs.YtmlpfbffecdepaaGreatDoor
set_option linter.unusedVariables false
open Go.RowKit
/-- A row in the making, in a function that only makes memory. -/
structure IG {D : Type} (T k : Nat) (f : D → Nat → Value) (H : Frz) (B : Nat) (v : Value) (ds : List D) (w W : World) : Prop where
  inn : H.In W
  row : Orow W B T k f v ds
  own : ∀ g, v.ownBlock = some g → H g = none
  bel : Below w.heap.size w W
  hB : w.heap.size ≤ B
  le : B ≤ W.heap.size
section
variable {D : Type} {T k : Nat} {f : D → Nat → Value} {H : Frz} {B : Nat} {v v' : Value} {ds ds' : List D} {w W W' : World}
theorem IG.below (h : IG T k f H B v ds w W) (hb : Below W.heap.size W W') : IG T k f H B v ds w W' :=
  ⟨h.inn.below hb, h.row.below hb, h.own, h.bel.trans (hb.mono h.bel.size), h.hB, Nat.le_trans h.le hb.size⟩
theorem IG.app (h : IG T k f H B v ds w W) (o : Orow W' B T k f v' ds') (g1 : W.grownBy W' v.ownBlock) (at1 : v'.ownBlock = v.ownBlock ∨ ∃ g, v'.ownBlock = some g ∧ W.heap.size < g) : IG T k f H B v' ds' w W' :=
  ⟨h.inn.grown' g1 h.own, o, (fun q hq => by
    rcases at1 with e | ⟨g, e, hg⟩
    · exact h.own q (by rw [← e]; exact hq)
    · rw [e] at hq; injection hq with hq; exact h.inn.none_ (by omega)), h.bel.grown g1 h.bel.size (fun g hg => Nat.le_trans h.hB (h.row.lt hg).1), h.hB, Nat.le_trans h.le g1.size⟩
theorem IG.put (h : IG T k f H B v ds w W) (o : Obj) : ∃ H', H.Le H' ∧ H' W.heap.size = some o ∧ IG T k f H' B v ds w (W.alloc o) := by
  have h2 := h.below (new1 o)
  refine ⟨H.add W.heap.size o, Frz.le_add (h.inn.none_ (Nat.le_refl _)), Frz.add_at _ _ _, h2.inn.add (heap_at rfl), h2.row, fun g hg => ?_, h2.bel, h2.hB, h2.le⟩
  rw [Frz.add_other (by have := (h.row.lt hg).2; omega)]
  exact h.own g hg
theorem IG.less {H' : Frz} (h : IG T k f H' B v ds w W) (hl : H.Le H') : IG T k f H B v ds w W :=
  ⟨h.inn.le hl, h.row, (fun g hg => by
    cases e : H g with
    | none => rfl
    | some o => (have := hl g o e; rw [h.own g hg] at this; cases this)), h.bel, h.hB, h.le⟩
/-- One cell of an element changed. -/
theorem IG.upd {go capg n : Nat} (h : IG T k f H B (.slice (some ⟨go, 0, none⟩) n capg) ds w W) (hn : n = ds.length) {p : Nat} (hp : p < ds.length) {j : Nat} (hj : j < k) (d' : D) {x : Value} (hx : f d' j = x) (ho : ∀ m, m < k → m ≠ j → f d' m = f ds[p] m) :
    W.cell? ⟨go, p * k + j, none⟩ = some (f ds[p] j) ∧ W.frozen? ⟨go, p * k + j, none⟩ = false ∧ IG T k f H B (.slice (some ⟨go, 0, none⟩) n capg) (ds.set p d') w (W.setCell ⟨go, p * k + j, none⟩ x) := by
  subst hn
  have hne : ds ≠ [] := by intro e; rw [e] at hp; simp at hp
  obtain ⟨g', cap', rest, hv, hle', hB', hlt, hm', hblk, hr⟩ := h.row.form hne
  injection hv with e1 _ e2
  injection e1 with e1
  injection e1 with e1
  subst e1 e2
  have hnone : H go = none := h.own go rfl
  refine ⟨hblk.cell p j hp hj, hblk.frozen _, h.inn.setCell (p := ⟨go, p * k + j, none⟩) hnone _, ?_, h.own, h.bel.setCell (show w.heap.size ≤ go from Nat.le_trans h.hB hB') _, h.hB, by have := h.le; simpa [World.setCell] using this⟩
  have := Orow.of_blk (B := B) (hblk.upd p j hp hj hx ho) hB' hm' (by simpa using hle') (by simpa using hr)
  simpa using this
end
end Go.Proofs.YtmlpfbffecdepaaGreatDoor
