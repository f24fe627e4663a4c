/- Texts of this claim, put together: StepsP, CheckSent, GainP, CheckGains, MakeKey, MakeSent, MakeSentN, MakeGains. -/
import Derived.Test.YtihcmifikbkbcaaGreatDoorQA
import Derived.StringKeys
import Derived.Carry
import Derived.Deep.Cut
import Derived.StillTailTactics
/- Letters that were sent, and what people did with them, in plain words. -/
namespace Go.Proofs.YtihcmifikbkbcaaGreatDoor
set_option linter.unusedVariables false
open Go.RowKit

structure SentD where
  id : ByteArray
  person : ByteArray
  letter : ByteArray
  at_ : Int
def fSe (d : SentD) : Nat → Value
  | 0 => .string d.id
  | 1 => .string d.person
  | 2 => .string d.letter
  | _ => .int .i64 d.at_
structure ActD where
  sent : ByteArray
  kind : Int
  at_ : Int
def fA (d : ActD) : Nat → Value
  | 0 => .string d.sent
  | 1 => .int .i64 d.kind
  | _ => .int .i64 d.at_
structure RowD where
  letter : List UInt8
  sent : Nat
  opened : Nat
  clicked : Nat
  bought : Nat
  left : Nat
def fRow (d : RowD) : Nat → Value
  | 0 => .string ⟨d.letter.toArray⟩
  | 1 => .int .i64 d.sent
  | 2 => .int .i64 d.opened
  | 3 => .int .i64 d.clicked
  | 4 => .int .i64 d.bought
  | _ => .int .i64 d.left
/-- The first error of n checks, or none. -/
def IsErr (f : Nat → Int) (n : Nat) (e : Int) : Prop := (e = 0 ∧ ∀ i, i < n → f i = 0) ∨ (e ≠ 0 ∧ ∃ i, i < n ∧ f i = e ∧ ∀ j, j < i → f j = 0)
theorem IsErr.one {f : Nat → Int} {n : Nat} {e e' : Int} (h : IsErr f n e) (h' : IsErr f n e') : e = e' := by
  rcases h with ⟨rfl, h⟩ | ⟨hn, i, hi, he, hj⟩
  · rcases h' with ⟨rfl, _⟩ | ⟨hn', i', hi', he', hj'⟩
    · rfl
    · rw [h i' hi'] at he'; exact absurd he'.symm hn'
  · rcases h' with ⟨rfl, h'⟩ | ⟨hn', i', hi', he', hj'⟩
    · rw [h' i hi] at he; exact absurd he.symm hn
    · rcases Nat.lt_trichotomy i i' with hlt | rfl | hlt
      · rw [hj' i hlt] at he; exact absurd he.symm hn
      · rw [← he, ← he']
      · rw [hj i' hlt] at he'; exact absurd he'.symm hn'
theorem IsErr.bad {f : Nat → Int} {n i : Nat} {e : Int} (hi : i < n) (hj : ∀ j, j < i → f j = 0) (he : f i = e) (hn : e ≠ 0) : IsErr f n e := Or.inr ⟨hn, i, hi, he, hj⟩
theorem IsErr.good {f : Nat → Int} {n : Nat} (h : ∀ i, i < n → f i = 0) : IsErr f n 0 := Or.inl ⟨rfl, h⟩
theorem IsErr.all {f : Nat → Int} {n : Nat} (h : IsErr f n 0) : ∀ i, i < n → f i = 0 := by
  rcases h with ⟨_, h⟩ | ⟨hn, _⟩
  · exact h
  · exact absurd rfl hn
theorem errStep {f : Nat → Int} {i : Nat} (h : ∀ j, j < i → f j = 0) (hi : f i = 0) : ∀ j, j < i + 1 → f j = 0 := fun j hj => by
  by_cases e : j = i
  · rw [e]; exact hi
  · exact h j (by omega)
def ErrPost (f : Nat → Int) (n : Nat) (w : World) (e : Ending) (w' : World) : Prop := ∃ k : Int, e = .returned (.int .i64 k) ∧ IsErr f n k ∧ Below w.heap.size w w'

def sameId (k : ByteArray) (x : SentD) : Bool := x.id.toList == k.toList
def prevAt (ss : List SentD) (i : Nat) : Int := match ss[i - 1]? with | some s => s.at_ | none => 0
/-- What is wrong with a letter that was sent. -/
def sentErr (s : SentD) (dup late : Bool) : Int :=
  if isKey s.id = false then 5 else if dup = true then 6 else if isKey s.person = false then 5 else if isKey s.letter = false then 5 else if ¬ (0 ≤ s.at_ ∧ s.at_ ≤ 4321439) then 1 else if late = true then 7 else 0
def lateB (ss : List SentD) (i : Nat) (s : SentD) : Bool := decide (0 < i) && decide (s.at_ < prevAt ss i)
def sentAt (ss : List SentD) (i : Nat) : Int := match ss[i]? with | none => 0 | some s => sentErr s ((ss.take i).any (sameId s.id)) (lateB ss i s)
theorem sentAt_eq {ss : List SentD} {i : Nat} (h : i < ss.length) : sentAt ss i = sentErr ss[i] ((ss.take i).any (sameId ss[i].id)) (lateB ss i ss[i]) := by
  unfold sentAt
  rw [List.getElem?_eq_getElem h]
/-- The ids that were seen, ac a map. -/
def seenMp (ss : List SentD) : Lit → Option Value := fun l => if ss.any (fun x => l.sameKey (codeLit x.id)) then some (.bool true) else none
theorem seenMp_get (ss : List SentD) (k : ByteArray) : (seenMp ss (codeLit k)).getD (.bool false) = .bool (ss.any (sameId k)) := by
  unfold seenMp
  have : (fun x : SentD => (codeLit k).sameKey (codeLit x.id)) = sameId k := by
    funext x
    rw [sameKey_code]; rfl
  rw [this]
  cases ss.any (sameId k) <;> rfl
theorem seenMp_snoc (ss : List SentD) (s : SentD) : mpSet (seenMp ss) (codeLit s.id) (.bool true) = seenMp (ss ++ [s]) := by
  funext l
  unfold mpSet seenMp
  rw [List.any_append]
  by_cases e : l.sameKey (codeLit s.id) = true
  · simp [e]
  · have e' : l.sameKey (codeLit s.id) = false := by simpa using e
    simp [e']
theorem seenMp_nil : seenMp [] = mpNew := rfl

/-- Where a letter with an id is. -/
def idIx (ss : List SentD) (k : ByteArray) : Option Nat := ss.findIdx? (sameId k)
def atMp (ss : List SentD) : Lit → Option Value := fun l => (ss.findIdx? (fun x => l.sameKey (codeLit x.id))).map (fun i => .int .i64 (i : Nat))
theorem atMp_at (ss : List SentD) (k : ByteArray) : atMp ss (codeLit k) = (idIx ss k).map (fun i => .int .i64 (i : Nat)) := by
  unfold atMp idIx
  have : (fun x : SentD => (codeLit k).sameKey (codeLit x.id)) = sameId k := by
    funext x
    rw [sameKey_code]; rfl
  rw [this]
theorem atMp_nil : atMp [] = mpNew := rfl
theorem atMp_snoc (ss : List SentD) (s : SentD) (h : ss.any (sameId s.id) = false) : mpSet (atMp ss) (codeLit s.id) (.int .i64 (ss.length : Nat)) = atMp (ss ++ [s]) := by
  funext l
  unfold mpSet
  by_cases e : l.sameKey (codeLit s.id) = true
  · have e2 := WideAt.sameKey_eq e
    subst e2
    rw [if_pos e, atMp_at]
    unfold idIx
    rw [List.findIdx?_append]
    have h1 : ss.findIdx? (sameId s.id) = none := by
      rw [List.findIdx?_eq_none_iff]
      intro x hx
      exact List.any_eq_false.1 h x hx |> fun h => by simpa using h
    have h2 : sameId s.id s = true := by simp [sameId]
    rw [h1]
    simp [List.findIdx?_cons, h2]
  · rw [if_neg e]
    have e' : l.sameKey (codeLit s.id) = false := by simpa using e
    unfold atMp
    rw [List.findIdx?_append]
    simp [List.findIdx?_cons, e']
theorem idIx_lt {ss : List SentD} {k : ByteArray} {i : Nat} (h : idIx ss k = some i) : i < ss.length := by
  unfold idIx at h
  exact (List.findIdx?_eq_some_iff_getElem.1 h).1
def atOf (ss : List SentD) (i : Nat) : Int := match ss[i]? with | some s => s.at_ | none => 0
theorem atOf_eq {ss : List SentD} {i : Nat} (h : i < ss.length) : atOf ss i = ss[i].at_ := by
  unfold atOf
  rw [List.getElem?_eq_getElem h]
/-- What is wrong with an act. -/
def actErr (ss : List SentD) (a : ActD) : Int := match idIx ss a.sent with
  | none => 8
  | some i => if ¬ (1 ≤ a.kind ∧ a.kind ≤ 4) then 4 else if ¬ (0 ≤ a.at_ ∧ a.at_ ≤ 4321439) then 1 else if a.at_ < atOf ss i then 7 else 0
def actAt (ss : List SentD) (ac : List ActD) (i : Nat) : Int := match ac[i]? with | none => 0 | some a => actErr ss a
theorem actAt_eq {ss : List SentD} {ac : List ActD} {i : Nat} (h : i < ac.length) : actAt ss ac i = actErr ss ac[i] := by
  unfold actAt
  rw [List.getElem?_eq_getElem h]
/-- The error of Steps. -/
def StErr (ss : List SentD) (ac : List ActD) (e : Int) : Prop := (e ≠ 0 ∧ IsErr (sentAt ss) ss.length e) ∨ (IsErr (sentAt ss) ss.length 0 ∧ IsErr (actAt ss ac) ac.length e)
theorem StErr.one {ss : List SentD} {ac : List ActD} {e e' : Int} (h : StErr ss ac e) (h' : StErr ss ac e') : e = e' := by
  rcases h with ⟨h0, h⟩ | ⟨h, h2⟩
  · rcases h' with ⟨_, h'⟩ | ⟨h', _⟩
    · exact h.one h'
    · exact absurd (h.one h') h0
  · rcases h' with ⟨h0', h'⟩ | ⟨_, h2'⟩
    · exact absurd (h'.one h) h0'
    · exact h2.one h2'
/-- Who did what with the i-th letter within a span. -/
def didB (ss : List SentD) (ac : List ActD) (span : Int) (i : Nat) (k : Nat) : Bool := ac.any (fun a => (idIx ss a.sent == some i) && (a.kind == (k : Int)) && decide (a.at_ - atOf ss i ≤ span))
theorem didB_mono {ss : List SentD} {ac : List ActD} {s s' : Int} (h : s ≤ s') {i k : Nat} (hd : didB ss ac s i k = true) : didB ss ac s' i k = true := by
  unfold didB at hd ⊢
  rw [List.any_eq_true] at hd ⊢
  obtain ⟨a, ha, hb⟩ := hd
  refine ⟨a, ha, ?_⟩
  simp only [Bool.and_eq_true, decide_eq_true_eq] at hb ⊢
  exact ⟨hb.1, by omega⟩
def letB (ss : List SentD) (k : List UInt8) (i : Nat) : Bool := match ss[i]? with | some s => s.letter.data.toList == k | none => false
def opB (d : Nat → Nat → Bool) (i : Nat) : Bool := d i 1 || (d i 2 || d i 3)
def clB (d : Nat → Nat → Bool) (i : Nat) : Bool := d i 2 || d i 3
def ct (n : Nat) (p : Nat → Bool) : Nat := (List.range n).countP p
theorem ct_succ (n : Nat) (p : Nat → Bool) : ct (n + 1) p = ct n p + (if p n then 1 else 0) := by
  unfold ct
  rw [List.range_succ, List.countP_append, List.countP_singleton]
theorem ct_le (n : Nat) (p : Nat → Bool) : ct n p ≤ n := by
  have := List.countP_le_length (p := p) (l := List.range n)
  simpa [ct] using this
theorem ct_mono {n : Nat} {p q : Nat → Bool} (h : ∀ i, p i = true → q i = true) : ct n p ≤ ct n q := by
  unfold ct
  exact List.countP_mono_left (fun x _ => h x)
/-- A letter's row after n letters. -/
def rowN (ss : List SentD) (d : Nat → Nat → Bool) (k : List UInt8) (n : Nat) : RowD :=
  ⟨k, ct n (letB ss k), ct n (fun i => letB ss k i && opB d i), ct n (fun i => letB ss k i && clB d i), ct n (fun i => letB ss k i && d i 3), ct n (fun i => letB ss k i && d i 4)⟩
def stepRow (r : RowD) (b1 b2 b3 b4 : Bool) : RowD := ⟨r.letter, r.sent + 1, r.opened + (if b1 || (b2 || b3) then 1 else 0), r.clicked + (if b2 || b3 then 1 else 0), r.bought + (if b3 then 1 else 0), r.left + (if b4 then 1 else 0)⟩
theorem rowN_yes {ss : List SentD} {d : Nat → Nat → Bool} {k : List UInt8} {n : Nat} (h : letB ss k n = true) : rowN ss d k (n + 1) = stepRow (rowN ss d k n) (d n 1) (d n 2) (d n 3) (d n 4) := by
  unfold rowN stepRow
  simp only [ct_succ, h, Bool.true_and, if_true]
  rfl
theorem rowN_no {ss : List SentD} {d : Nat → Nat → Bool} {k : List UInt8} {n : Nat} (h : letB ss k n = false) : rowN ss d k (n + 1) = rowN ss d k n := by
  unfold rowN
  simp only [ct_succ, h, Bool.false_and, Bool.false_eq_true, if_false, Nat.add_zero]
theorem row_falls (ss : List SentD) (d : Nat → Nat → Bool) (k : List UInt8) (n : Nat) : (rowN ss d k n).opened ≤ (rowN ss d k n).sent ∧ (rowN ss d k n).clicked ≤ (rowN ss d k n).opened ∧ (rowN ss d k n).bought ≤ (rowN ss d k n).clicked ∧ (rowN ss d k n).left ≤ (rowN ss d k n).sent := by
  refine ⟨ct_mono fun i h => ?_, ct_mono fun i h => ?_, ct_mono fun i h => ?_, ct_mono fun i h => ?_⟩
  · simp only [Bool.and_eq_true] at h; exact h.1
  · simp only [Bool.and_eq_true, clB, opB, Bool.or_eq_true] at h ⊢; exact ⟨h.1, Or.inr h.2⟩
  · simp only [Bool.and_eq_true, clB, Bool.or_eq_true] at h ⊢; exact ⟨h.1, Or.inr h.2⟩
  · simp only [Bool.and_eq_true] at h; exact h.1
theorem row_grows {ss : List SentD} {d d' : Nat → Nat → Bool} (h : ∀ i k, d i k = true → d' i k = true) (k : List UInt8) (n : Nat) : (rowN ss d k n).sent = (rowN ss d' k n).sent ∧ (rowN ss d k n).opened ≤ (rowN ss d' k n).opened ∧ (rowN ss d k n).clicked ≤ (rowN ss d' k n).clicked ∧ (rowN ss d k n).bought ≤ (rowN ss d' k n).bought ∧ (rowN ss d k n).left ≤ (rowN ss d' k n).left := by
  refine ⟨rfl, ct_mono fun i hi => ?_, ct_mono fun i hi => ?_, ct_mono fun i hi => ?_, ct_mono fun i hi => ?_⟩
  · simp only [Bool.and_eq_true, opB, Bool.or_eq_true] at hi ⊢
    exact ⟨hi.1, hi.2.elim (fun x => Or.inl (h _ _ x)) (fun x => Or.inr (x.elim (fun y => Or.inl (h _ _ y)) (fun y => Or.inr (h _ _ y))))⟩
  · simp only [Bool.and_eq_true, clB, Bool.or_eq_true] at hi ⊢
    exact ⟨hi.1, hi.2.elim (fun x => Or.inl (h _ _ x)) (fun x => Or.inr (h _ _ x))⟩
  · simp only [Bool.and_eq_true] at hi ⊢
    exact ⟨hi.1, h _ _ hi.2⟩
  · simp only [Bool.and_eq_true] at hi ⊢
    exact ⟨hi.1, h _ _ hi.2⟩
/-- The letters, each once, ac they first came. -/
def lets (ss : List SentD) : Nat → List (List UInt8)
  | 0 => []
  | n + 1 => match ss[n]? with | none => lets ss n | some s => if (lets ss n).contains s.letter.data.toList then lets ss n else lets ss n ++ [s.letter.data.toList]
theorem lets_nodup (ss : List SentD) (n : Nat) : (lets ss n).Nodup := by
  induction n with
  | zero => exact List.nodup_nil
  | succ n ih =>
    unfold lets
    split
    · exact ih
    · split
      · exact ih
      · rename_i s _ h
        rw [List.nodup_append]
        refine ⟨ih, by simp, ?_⟩
        intro a ha b hb
        simp at hb
        rintro rfl
        rw [hb] at ha
        exact h (by simpa using ha)
theorem rowN_new {ss : List SentD} {d : Nat → Nat → Bool} {k : List UInt8} {n : Nat} (h : ¬ k ∈ lets ss n) : rowN ss d k n = ⟨k, 0, 0, 0, 0, 0⟩ := by
  induction n with
  | zero => rfl
  | succ n ih =>
    have h1 : ¬ k ∈ lets ss n := by
      intro c
      apply h
      unfold lets
      split
      · exact c
      · split
        · exact c
        · exact List.mem_append_left _ c
    have h2 : letB ss k n = false := by
      unfold letB
      cases e : ss[n]? with
      | none => rfl
      | some s =>
        simp only
        cases e2 : (s.letter.data.toList == k) with
        | false => rfl
        | true =>
          exfalso
          apply h
          have e3 : s.letter.data.toList = k := by simpa using e2
          unfold lets
          rw [e]
          simp only
          split
          · rename_i hc
            rw [e3] at hc
            simpa using hc
          · rw [e3]; simp
    rw [rowN_no h2]
    exact ih h1
end Go.Proofs.YtihcmifikbkbcaaGreatDoor

/- CheckSent: the first thing that is wrong with letters that were sent. -/
namespace Go.Proofs.YtihcmifikbkbcaaGreatDoor
set_option linter.unusedVariables false
open Go.RowKit

theorem frz4 {H : Frz} {w : World} (h : H.In w) {g : Nat} {x0 x1 x2 x3 : Value} {T : TypeId} (e : H g = some (.cells #[x0, x1, x2, x3] T (0, 0))) :
    w.cell? ⟨g, 0, none⟩ = some x0 ∧ w.cell? ⟨g, 1, none⟩ = some x1 ∧ w.cell? ⟨g, 2, none⟩ = some x2 ∧ w.cell? ⟨g, 3, none⟩ = some x3 := by
  have := h _ _ e
  simp [World.cell?, this]
set_option maxHeartbeats 400000 in
theorem mwithin_any (n l h : Int) (w : World) : Calls Tryz.prog 33 #[.int .i64 n, .int .i64 l, .int .i64 h] w fun e w' => e = .returned (.bool (decide (l ≤ n) && decide (n ≤ h))) ∧ w = w' := by
  by_cases h1 : l ≤ n
  · go_enter Tryz.func33, Tryz.ntmps33
    go_wp2
    go_ret
    exact ⟨by simp [h1], rfl⟩
  · go_enter Tryz.func33, Tryz.ntmps33
    go_wp2
    go_ret
    exact ⟨by simp; omega, rfl⟩
set_option maxHeartbeats 400000 in
theorem mMoment_any (n : Int) (w : World) : Calls Tryz.prog 32 #[.int .i64 n] w fun e w' => e = .returned (.bool (decide (0 ≤ n) && decide (n ≤ 4321439))) ∧ w = w' := by
  go_enter Tryz.func32, Tryz.ntmps32
  go_wp2_with fail
  refine (mwithin_any _ _ _ _).mono ?_
  rintro e w' ⟨rfl, rfl⟩
  generalize hq : (decide (0 ≤ n) && decide (n ≤ 4321439)) = q
  have HQ := Lib.hid hq
  clear hq
  go_wp2_with fail
  go_ret
  exact ⟨ret_bool' HQ.out.symm, rfl⟩
/-- What is so at the head of the loop. -/
structure SI (ss : List SentD) (W : World) (i : Nat) (wr : World) : Prop where
  bel : Below W.heap.size W wr
  map : Mp Tryz.prog 9 wr W.heap.size i (seenMp (ss.take i))
  ok : ∀ j, j < i → sentAt ss j = 0
theorem SI.new (ss : List SentD) (W : World) : SI ss W 0 (W.alloc (.map #[] 0)) :=
  ⟨(Below.refl W.heap.size W).alloc (Nat.le_refl _) _, Mp.made Tryz.prog 9 W, fun j hj => by omega⟩
theorem SI.call {ss : List SentD} {W wr w' : World} {i : Nat} (h : SI ss W i wr) (hb : Below wr.heap.size wr w') : SI ss W i w' :=
  ⟨h.bel.trans (hb.mono h.bel.size), h.map.below hb, h.ok⟩
theorem SI.alloc {ss : List SentD} {W wr : World} {i : Nat} (h : SI ss W i wr) (o : Obj) : SI ss W i (wr.alloc o) := h.call ((Below.refl _ _).alloc (Nat.le_refl _) _)
theorem SI.put {ss : List SentD} {W wr w' : World} {i : Nat} (h : SI ss W i wr) (hi : i < ss.length) (hat : sentAt ss i = 0) (hM : Mp Tryz.prog 9 w' W.heap.size (i + 1) (mpSet (seenMp (ss.take i)) (codeLit ss[i].id) (.bool true))) (hg : wr.grownBy w' (some W.heap.size)) : SI ss W (i + 1) w' := by
  refine ⟨h.bel.grown hg h.bel.size (fun k hk => by injection hk with hk; omega), ?_, errStep h.ok hat⟩
  rw [seenMp_snoc] at hM
  rw [List.take_succ_eq_append_getElem hi]
  exact hM
def SzS (ss : List SentD) : Prop := ∀ s ∈ ss, s.id.size ≤ 1000 ∧ s.person.size ≤ 1000 ∧ s.letter.size ≤ 1000 ∧ -10000000 ≤ s.at_ ∧ s.at_ ≤ 10000000
set_option maxHeartbeats 4000000 in
set_option maxRecDepth 20000 in
theorem checkSent_any (H : Frz) (A : Option Addr) (cap : Nat) (ss : List SentD) (W : World) (hH : H.In W) (hR : Rw H A 4 fSe ss) (hsz : SzS ss) (hl : ss.length ≤ 5000) (hcap : ss.length ≤ cap) :
    Calls Tryz.prog 16 #[.slice A ss.length cap] W (ErrPost (sentAt ss) ss.length W) := by
  have HR := Lib.hid hR
  have HH := Lib.hid hH
  have HS := Lib.hid hsz
  have hmm := @run_makeMap Tryz.prog
  have HNEW := Lib.hid (SI.new ss W)
  have hl' : decide ((5000 : Int) < ss.length) = false := by simp; omega
  clear hR hH hsz
  go_enter Tryz.func16, Tryz.ntmps16
  go_wp2_with fail
  clear hmm
  go_loopw [12] (fun t wr => ∃ i : Nat, i ≤ ss.length ∧ t = .int .i64 i ∧ Hid (SI ss W i wr)) (fun t _ => ss.length - (intOf t).toNat)
  case atStart => exact ⟨0, by omega, rfl, HNEW⟩
  case round =>
    obtain ⟨i, hi, rfl, hinv⟩ := hrel
    clear HNEW
    by_cases hlt : i < ss.length
    · have hin := HH.out.below hinv.out.bel
      obtain ⟨b, off, hA, hbl, hc⟩ := HR.out.at_ hin hlt (by omega)
      have hprev : Hid (∀ p, i = p + 1 → ∃ pa : Int, prevAt ss i = pa ∧ ∀ W', Below wr.heap.size wr W' → W'.cell? ⟨b, off + p * 4 + 3, none⟩ = some (.int .i64 pa)) := by
        rintro p rfl
        have hp : p < ss.length := by omega
        obtain ⟨b', off', hA', hbl', hc'⟩ := HR.out.at_ hin hp (by omega)
        rw [hA] at hA'
        simp only [Option.some.injEq, Addr.mk.injEq] at hA'
        obtain ⟨rfl, rfl, _⟩ := hA'
        refine ⟨ss[p].at_, ?_, fun W' hW' => (hW'.cell (World.block_lt_of_cell? wr _ (hc' 3 (by omega)))).trans (hc' 3 (by omega))⟩
        unfold prevAt
        simp only [Nat.add_sub_cancel]
        rw [List.getElem?_eq_getElem hp]
      subst hA
      have c0 : wr.cell? ⟨b, off + i * 4, none⟩ = some (.string ss[i].id) := hc 0 (by omega)
      have c1 : wr.cell? ⟨b, off + i * 4 + 1, none⟩ = some (.string ss[i].person) := hc 1 (by omega)
      have c2 : wr.cell? ⟨b, off + i * 4 + 2, none⟩ = some (.string ss[i].letter) := hc 2 (by omega)
      have c3 : wr.cell? ⟨b, off + i * 4 + 3, none⟩ = some (.int .i64 ss[i].at_) := hc 3 (by omega)
      have hks := HS.out _ (List.getElem_mem hlt)
      have HAT := Lib.hid (sentAt_eq hlt)
      have HLATE : Hid (lateB ss i ss[i] = (decide (0 < i) && decide (ss[i].at_ < prevAt ss i))) := rfl
      have HPUT : Hid (∀ w1 w2, SI ss W i w1 → sentAt ss i = 0 → Mp Tryz.prog 9 w2 W.heap.size (i + 1) (mpSet (seenMp (ss.take i)) (codeLit ss[i].id) (.bool true)) → w1.grownBy w2 (some W.heap.size) → SI ss W (i + 1) w2) := fun w1 w2 h1 h2 h3 h4 => h1.put hlt h2 h3 h4
      have HGET := Lib.hid (seenMp_get (ss.take i) ss[i].id)
      clear hc
      generalize ss[i] = d at c0 c1 c2 c3 hks HAT HLATE HPUT HGET
      have HIN := Lib.hid hin
      clear hin
      obtain ⟨H2, hl2, hbx, hin2⟩ := HIN.out.put (.cells #[.string d.id, .string d.person, .string d.letter, .int .i64 d.at_] 47)
      have HI2 := Lib.hid (hinv.out.alloc (.cells #[.string d.id, .string d.person, .string d.letter, .int .i64 d.at_] 47))
      have HBA := Lib.hid ((Below.refl wr.heap.size wr).alloc (Nat.le_refl _) (.cells #[.string d.id, .string d.person, .string d.letter, .int .i64 d.at_] 47))
      have HBX := Lib.hid hbx
      have HIN2 := Lib.hid hin2
      clear hl2 hbx hin2
      go_upto_region 7 with (fail)
      clear c0 c1 c2 c3
      generalize hg : wr.heap.size = g at HBX
      generalize hW1 : wr.alloc _ = W1 at HI2 HIN2 HBA
      have HK1 := Lib.hid (strKey (s := d.id) (by omega))
      obtain ⟨z0, z1, z2, z3⟩ := frz4 HIN2.out HBX.out
      have HBAD : Hid (∀ n : Int, sentErr d ((ss.take i).any (sameId d.id)) (lateB ss i d) = n → n ≠ 0 → ErrPost (sentAt ss) ss.length W (.returned (.int .i64 n)) W1) := fun n h1 h2 => ⟨n, rfl, IsErr.bad hlt HI2.out.ok (HAT.out.trans h1) h2, HI2.out.bel⟩
      clear hg hW1
      go_wp2_with fail
      refine (isKey_any d.id W1 (by omega)).mono ?_
      rintro e w' ⟨rfl, rfl⟩
      generalize hik : isKey d.id = ik
      have HIK := Lib.hid hik
      clear hik
      cases ik with
      | false =>
        have HF := Lib.hid (HBAD.out 5 (by simp [sentErr, HIK.out]) (by omega))
        go_wp2_with fail
        go_ret
        exact HF.out
      | true =>
        generalize hdu : (ss.take i).any (sameId d.id) = du at HGET HBAD HAT
        have HDU := Lib.hid hdu
        clear hdu
        cases du with
        | true =>
          have HF := Lib.hid (HBAD.out 6 (by simp [sentErr, HIK.out]) (by omega))
          go_wp2_with (at_lookup; refine wpList_mp_getv _ rfl _ _ 70 rfl 9 4 strKeyed Tryz.underlying70 (.bool false) (zeroBool _) W.heap.size i (seenMp (ss.take i)) rfl HI2.out.map _ _ rfl HK1.out _ HGET.out ?_)
          go_ret
          exact HF.out
        | false =>
          go_wp2_with (at_lookup; refine wpList_mp_getv _ rfl _ _ 70 rfl 9 4 strKeyed Tryz.underlying70 (.bool false) (zeroBool _) W.heap.size i (seenMp (ss.take i)) rfl HI2.out.map _ _ rfl HK1.out _ HGET.out ?_)
          refine (isKey_any d.person W1 (by omega)).mono ?_
          rintro e w' ⟨rfl, rfl⟩
          generalize hik : isKey d.person = ik
          have HIK2 := Lib.hid hik
          clear hik
          cases ik with
          | false =>
            have HF := Lib.hid (HBAD.out 5 (by simp [sentErr, HIK.out, HIK2.out]) (by omega))
            go_wp2_with fail
            go_ret
            exact HF.out
          | true =>
            go_wp2_with fail
            refine (isKey_any d.letter W1 (by omega)).mono ?_
            rintro e w' ⟨rfl, rfl⟩
            generalize hik : isKey d.letter = ik
            have HIK3 := Lib.hid hik
            clear hik
            cases ik with
            | false =>
              have HF := Lib.hid (HBAD.out 5 (by simp [sentErr, HIK.out, HIK2.out, HIK3.out]) (by omega))
              go_wp2_with fail
              go_ret
              exact HF.out
            | true =>
              go_wp2_with fail
              refine (mMoment_any d.at_ W1).mono ?_
              rintro e w' ⟨rfl, rfl⟩
              by_cases hm : 0 ≤ d.at_ ∧ d.at_ ≤ 4321439
              · have hmm : (decide (0 ≤ d.at_) && decide (d.at_ ≤ 4321439)) = true := by simp; omega
                rw [hmm]
                clear hmm
                have HERR : Hid (sentErr d false (lateB ss i d) = if lateB ss i d = true then 7 else 0) := by
                  show _ = _
                  simp [sentErr, HIK.out, HIK2.out, HIK3.out, hm]
                have HLT : Hid (i < maxLen) := by show _ < _; unfold maxLen; omega
                rcases Nat.eq_zero_or_pos i with h0 | hpos
                · have d1 : decide (0 < i) = false := by simp; omega
                  have d2 : decide ((0 : Int) < (i : Int)) = false := by simp; omega
                  have HOK : Hid (sentAt ss i = 0) := by
                    show _ = _
                    rw [HAT.out, HERR.out, HLATE.out, d1]
                    simp
                  clear h0 hm
                  go_upto_region 15 with (fail)
                  go_quiet (fail)
                  have HI3 := Lib.hid (HI2.out.call (below_drewN (Below.refl _ _) nq))
                  have y0 : (W1.drewN nq).cell? ⟨g, 0, none⟩ = some (.string d.id) := z0
                  generalize W1.drewN nq = W3 at HI3 y0
                  clear z0 z1 z2 z3
                  go_wp2_with (at_mapUpdate; refine wpList_mp_set _ rfl _ _ _ 70 rfl 9 4 strKeyed Tryz.underlying70 W.heap.size i (seenMp (ss.take i)) rfl HI3.out.map HLT.out _ _ _ rfl rfl HK1.out ?_; intro w5 hM5 hg5 hz5; have HI5 := Lib.hid (HPUT.out _ _ HI3.out HOK.out hM5 hg5); clear hM5 hg5 hz5)
                  go_roundw
                  case rel => exact ⟨i + 1, by omega, by go_num, HI5⟩
                  case measure => simp [intOf]; omega
                · obtain ⟨p, hp⟩ : ∃ p, i = p + 1 := ⟨i - 1, by omega⟩
                  obtain ⟨pa, hpa, hcell⟩ := hprev.out p hp
                  have q3 := hcell W1 HBA.out
                  have d1 : decide (0 < i) = true := by simp; omega
                  have d2 : decide ((0 : Int) < (i : Int)) = true := by simp; omega
                  have a1 : IntKind.i64.wrap ((i : Int) - 1) = (p : Int) := by rw [show (i : Int) - 1 = p from by omega]; exact IntWalk.i64_in _ (by omega)
                  have a2 : (i : Int) - 1 = (p : Int) := by omega
                  have a3 : (p : Int) < ss.length := by omega
                  have a4 : (0 : Int) ≤ (p : Int) := by omega
                  have a5 : p < ss.length := by omega
                  have HLT2 : Hid (lateB ss i d = decide (d.at_ < pa)) := by
                    show _ = _
                    rw [HLATE.out, d1, hpa]; simp
                  clear hm hcell hpa hp hpos
                  by_cases hla : d.at_ < pa
                  · have e1 : decide (d.at_ < pa) = true := by simpa using hla
                    have HF := Lib.hid (HBAD.out 7 (by rw [HERR.out, HLT2.out, e1]; simp) (by omega))
                    clear hla
                    go_upto_region 15 with (fail)
                    go_quiet (fail)
                    have HF2 : Hid (ErrPost (sentAt ss) ss.length W (.returned (.int .i64 7)) (W1.drewN nq)) := by
                      obtain ⟨k, he, h1, h2⟩ := HF.out
                      exact ⟨k, he, h1, below_drewN h2 nq⟩
                    clear HF
                    go_wp2_with fail
                    go_ret
                    exact HF2.out
                  · have e1 : decide (d.at_ < pa) = false := by simpa using hla
                    have HOK : Hid (sentAt ss i = 0) := by
                      show _ = _
                      rw [HAT.out, HERR.out, HLT2.out, e1]
                      simp
                    clear hla
                    go_upto_region 15 with (fail)
                    go_quiet (fail)
                    have HI3 := Lib.hid (HI2.out.call (below_drewN (Below.refl _ _) nq))
                    have y0 : (W1.drewN nq).cell? ⟨g, 0, none⟩ = some (.string d.id) := z0
                    generalize W1.drewN nq = W3 at HI3 y0
                    clear z0 z1 z2 z3
                    go_wp2_with (at_mapUpdate; refine wpList_mp_set _ rfl _ _ _ 70 rfl 9 4 strKeyed Tryz.underlying70 W.heap.size i (seenMp (ss.take i)) rfl HI3.out.map HLT.out _ _ _ rfl rfl HK1.out ?_; intro w5 hM5 hg5 hz5; have HI5 := Lib.hid (HPUT.out _ _ HI3.out HOK.out hM5 hg5); clear hM5 hg5 hz5)
                    go_roundw
                    case rel => exact ⟨i + 1, by omega, by go_num, HI5⟩
                    case measure => simp [intOf]; omega
              · have hmm : (decide (0 ≤ d.at_) && decide (d.at_ ≤ 4321439)) = false := by simp; omega
                rw [hmm]
                have HF := Lib.hid (HBAD.out 1 (by simp only [sentErr, HIK.out, HIK2.out, HIK3.out]; simp; omega) (by omega))
                clear hmm hm
                go_wp2_with fail
                go_ret
                exact HF.out
    · have hie : i = ss.length := by omega
      subst hie
      have HF : Hid (ErrPost (sentAt ss) ss.length W (.returned (.int .i64 0)) wr) := ⟨0, rfl, IsErr.good hinv.out.ok, hinv.out.bel⟩
      go_wp2_with fail
      go_ret
      exact HF.out
end Go.Proofs.YtihcmifikbkbcaaGreatDoor

/- Gains, in plain words. -/
namespace Go.Proofs.YtihcmifikbkbcaaGreatDoor
set_option linter.unusedVariables false
open Go.RowKit
structure GainD where
  id : ByteArray
  person : ByteArray
  at_ : Int
  cents : Int
def fGa (d : GainD) : Nat → Value
  | 0 => .string d.id
  | 1 => .string d.person
  | 2 => .int .i64 d.at_
  | _ => .int .i64 d.cents
def sameGa (k : ByteArray) (x : GainD) : Bool := x.id.toList == k.toList
/-- What is wrong with a gain. -/
def gainErr (s : GainD) (dup : Bool) : Int :=
  if isKey s.id = false then 5 else if dup = true then 6 else if isKey s.person = false then 5 else if ¬ (0 ≤ s.at_ ∧ s.at_ ≤ 4321439) then 1 else if ¬ (0 ≤ s.cents ∧ s.cents ≤ 1000000000000) then 1 else 0
def gainAt (ss : List GainD) (i : Nat) : Int := match ss[i]? with | none => 0 | some s => gainErr s ((ss.take i).any (sameGa s.id))
theorem gainAt_eq {ss : List GainD} {i : Nat} (h : i < ss.length) : gainAt ss i = gainErr ss[i] ((ss.take i).any (sameGa ss[i].id)) := by
  unfold gainAt
  rw [List.getElem?_eq_getElem h]
/-- The ids that were seen, as a map. -/
def seenGa (ss : List GainD) : Lit → Option Value := fun l => if ss.any (fun x => l.sameKey (codeLit x.id)) then some (.bool true) else none
theorem seenGa_get (ss : List GainD) (k : ByteArray) : (seenGa ss (codeLit k)).getD (.bool false) = .bool (ss.any (sameGa k)) := by
  unfold seenGa
  have : (fun x : GainD => (codeLit k).sameKey (codeLit x.id)) = sameGa k := by
    funext x
    rw [sameKey_code]; rfl
  rw [this]
  cases ss.any (sameGa k) <;> rfl
theorem seenGa_snoc (ss : List GainD) (s : GainD) : mpSet (seenGa ss) (codeLit s.id) (.bool true) = seenGa (ss ++ [s]) := by
  funext l
  unfold mpSet seenGa
  rw [List.any_append]
  by_cases e : l.sameKey (codeLit s.id) = true
  · simp [e]
  · have e' : l.sameKey (codeLit s.id) = false := by simpa using e
    simp [e']
theorem gainErr_ok {s : GainD} {dup : Bool} (h : gainErr s dup = 0) : (0 ≤ s.at_ ∧ s.at_ ≤ 4321439) ∧ 0 ≤ s.cents ∧ s.cents ≤ 1000000000000 := by
  unfold gainErr at h
  by_cases h1 : isKey s.id = false
  · rw [if_pos h1] at h; omega
  rw [if_neg h1] at h
  by_cases h2 : dup = true
  · rw [if_pos h2] at h; omega
  rw [if_neg h2] at h
  by_cases h3 : isKey s.person = false
  · rw [if_pos h3] at h; omega
  rw [if_neg h3] at h
  by_cases h4 : 0 ≤ s.at_ ∧ s.at_ ≤ 4321439
  · rw [if_neg (fun c => c h4)] at h
    by_cases h5 : 0 ≤ s.cents ∧ s.cents ≤ 1000000000000
    · exact ⟨h4, h5⟩
    · rw [if_pos h5] at h; omega
  · rw [if_pos h4] at h; omega
end Go.Proofs.YtihcmifikbkbcaaGreatDoor

/- CheckGains: the first thing that is wrong with gains. -/
namespace Go.Proofs.YtihcmifikbkbcaaGreatDoor
set_option linter.unusedVariables false
open Go.RowKit
structure GI (ss : List GainD) (W : World) (i : Nat) (wr : World) : Prop where
  bel : Below W.heap.size W wr
  map : Mp Tryz.prog 9 wr W.heap.size i (seenGa (ss.take i))
  ok : ∀ j, j < i → gainAt ss j = 0
theorem GI.new (ss : List GainD) (W : World) : GI ss W 0 (W.alloc (.map #[] 0)) :=
  ⟨(Below.refl W.heap.size W).alloc (Nat.le_refl _) _, Mp.made Tryz.prog 9 W, fun j hj => by omega⟩
theorem GI.call {ss : List GainD} {W wr w' : World} {i : Nat} (h : GI ss W i wr) (hb : Below wr.heap.size wr w') : GI ss W i w' :=
  ⟨h.bel.trans (hb.mono h.bel.size), h.map.below hb, h.ok⟩
theorem GI.alloc {ss : List GainD} {W wr : World} {i : Nat} (h : GI ss W i wr) (o : Obj) : GI ss W i (wr.alloc o) := h.call ((Below.refl _ _).alloc (Nat.le_refl _) _)
theorem GI.put {ss : List GainD} {W wr w' : World} {i : Nat} (h : GI ss W i wr) (hi : i < ss.length) (hat : gainAt ss i = 0) (hM : Mp Tryz.prog 9 w' W.heap.size (i + 1) (mpSet (seenGa (ss.take i)) (codeLit ss[i].id) (.bool true))) (hg : wr.grownBy w' (some W.heap.size)) : GI ss W (i + 1) w' := by
  refine ⟨h.bel.grown hg h.bel.size (fun k hk => by injection hk with hk; omega), ?_, errStep h.ok hat⟩
  rw [seenGa_snoc] at hM
  rw [List.take_succ_eq_append_getElem hi]
  exact hM
def SzG (ss : List GainD) : Prop := ∀ s ∈ ss, s.id.size ≤ 1000 ∧ s.person.size ≤ 1000 ∧ -10000000 ≤ s.at_ ∧ s.at_ ≤ 10000000 ∧ -10000000000000 ≤ s.cents ∧ s.cents ≤ 10000000000000
set_option maxHeartbeats 4000000 in
set_option maxRecDepth 20000 in
theorem checkGains_any (H : Frz) (A : Option Addr) (cap : Nat) (ss : List GainD) (W : World) (hH : H.In W) (hR : Rw H A 4 fGa ss) (hsz : SzG ss) (hl : ss.length ≤ 1000) (hcap : ss.length ≤ cap) :
    Calls Tryz.prog 17 #[.slice A ss.length cap] W (ErrPost (gainAt ss) ss.length W) := by
  have HR := Lib.hid hR
  have HH := Lib.hid hH
  have HS := Lib.hid hsz
  have hmm := @run_makeMap Tryz.prog
  have HNEW := Lib.hid (GI.new ss W)
  have hl' : decide ((1000 : Int) < ss.length) = false := by simp; omega
  clear hR hH hsz
  go_enter Tryz.func17, Tryz.ntmps17
  go_wp2_with fail
  clear hmm
  go_loopw [12] (fun t wr => ∃ i : Nat, i ≤ ss.length ∧ t = .int .i64 i ∧ Hid (GI ss W i wr)) (fun t _ => ss.length - (intOf t).toNat)
  case atStart => exact ⟨0, by omega, rfl, HNEW⟩
  case round =>
    obtain ⟨i, hi, rfl, hinv⟩ := hrel
    clear HNEW
    by_cases hlt : i < ss.length
    · have hin := HH.out.below hinv.out.bel
      obtain ⟨b, off, hA, hbl, hc⟩ := HR.out.at_ hin hlt (by omega)
      subst hA
      have c0 : wr.cell? ⟨b, off + i * 4, none⟩ = some (.string ss[i].id) := hc 0 (by omega)
      have c1 : wr.cell? ⟨b, off + i * 4 + 1, none⟩ = some (.string ss[i].person) := hc 1 (by omega)
      have c2 : wr.cell? ⟨b, off + i * 4 + 2, none⟩ = some (.int .i64 ss[i].at_) := hc 2 (by omega)
      have c3 : wr.cell? ⟨b, off + i * 4 + 3, none⟩ = some (.int .i64 ss[i].cents) := hc 3 (by omega)
      have hks := HS.out _ (List.getElem_mem hlt)
      have HAT := Lib.hid (gainAt_eq hlt)
      have HPUT : Hid (∀ w1 w2, GI ss W i w1 → gainAt ss i = 0 → Mp Tryz.prog 9 w2 W.heap.size (i + 1) (mpSet (seenGa (ss.take i)) (codeLit ss[i].id) (.bool true)) → w1.grownBy w2 (some W.heap.size) → GI ss W (i + 1) w2) := fun w1 w2 h1 h2 h3 h4 => h1.put hlt h2 h3 h4
      have HGET := Lib.hid (seenGa_get (ss.take i) ss[i].id)
      clear hc
      generalize ss[i] = d at c0 c1 c2 c3 hks HAT HPUT HGET
      have HIN := Lib.hid hin
      clear hin
      obtain ⟨H2, hl2, hbx, hin2⟩ := HIN.out.put (.cells #[.string d.id, .string d.person, .int .i64 d.at_, .int .i64 d.cents] 40)
      have HI2 := Lib.hid (hinv.out.alloc (.cells #[.string d.id, .string d.person, .int .i64 d.at_, .int .i64 d.cents] 40))
      have HBX := Lib.hid hbx
      have HIN2 := Lib.hid hin2
      clear hl2 hbx hin2
      go_upto_region 7 with (fail)
      clear c0 c1 c2 c3
      generalize hg : wr.heap.size = g at HBX
      generalize hW1 : wr.alloc _ = W1 at HI2 HIN2
      have HK1 := Lib.hid (strKey (s := d.id) (by omega))
      obtain ⟨z0, z1, z2, z3⟩ := frz4 HIN2.out HBX.out
      have HBAD : Hid (∀ n : Int, gainErr d ((ss.take i).any (sameGa d.id)) = n → n ≠ 0 → ErrPost (gainAt ss) ss.length W (.returned (.int .i64 n)) W1) := fun n h1 h2 => ⟨n, rfl, IsErr.bad hlt HI2.out.ok (HAT.out.trans h1) h2, HI2.out.bel⟩
      clear hg hW1
      go_wp2_with fail
      refine (isKey_any d.id W1 (by omega)).mono ?_
      rintro e w' ⟨rfl, rfl⟩
      generalize hik : isKey d.id = ik
      have HIK := Lib.hid hik
      clear hik
      cases ik with
      | false =>
        have HF := Lib.hid (HBAD.out 5 (by simp [gainErr, HIK.out]) (by omega))
        go_wp2_with fail
        go_ret
        exact HF.out
      | true =>
        generalize hdu : (ss.take i).any (sameGa d.id) = du at HGET HBAD HAT
        have HDU := Lib.hid hdu
        clear hdu
        cases du with
        | true =>
          have HF := Lib.hid (HBAD.out 6 (by simp [gainErr, HIK.out]) (by omega))
          go_wp2_with (at_lookup; refine wpList_mp_getv _ rfl _ _ 70 rfl 9 4 strKeyed Tryz.underlying70 (.bool false) (zeroBool _) W.heap.size i (seenGa (ss.take i)) rfl HI2.out.map _ _ rfl HK1.out _ HGET.out ?_)
          go_ret
          exact HF.out
        | false =>
          go_wp2_with (at_lookup; refine wpList_mp_getv _ rfl _ _ 70 rfl 9 4 strKeyed Tryz.underlying70 (.bool false) (zeroBool _) W.heap.size i (seenGa (ss.take i)) rfl HI2.out.map _ _ rfl HK1.out _ HGET.out ?_)
          refine (isKey_any d.person W1 (by omega)).mono ?_
          rintro e w' ⟨rfl, rfl⟩
          generalize hik : isKey d.person = ik
          have HIK2 := Lib.hid hik
          clear hik
          cases ik with
          | false =>
            have HF := Lib.hid (HBAD.out 5 (by simp [gainErr, HIK.out, HIK2.out]) (by omega))
            go_wp2_with fail
            go_ret
            exact HF.out
          | true =>
            go_wp2_with fail
            refine (mMoment_any d.at_ W1).mono ?_
            rintro e w' ⟨rfl, rfl⟩
            by_cases hm : 0 ≤ d.at_ ∧ d.at_ ≤ 4321439
            · have hmm : (decide (0 ≤ d.at_) && decide (d.at_ ≤ 4321439)) = true := by simp; omega
              rw [hmm]
              clear hmm
              go_wp2_with fail
              refine (mwithin_any _ _ _ _).mono ?_
              rintro e w' ⟨rfl, rfl⟩
              by_cases hm2 : 0 ≤ d.cents ∧ d.cents ≤ 1000000000000
              · have hmm : (decide (0 ≤ d.cents) && decide (d.cents ≤ 1000000000000)) = true := by simp; omega
                rw [hmm]
                clear hmm
                have HOK : Hid (gainAt ss i = 0) := by
                  show _ = _
                  rw [HAT.out]
                  simp [gainErr, HIK.out, HIK2.out, hm, hm2]
                have HLT : Hid (i < maxLen) := by show _ < _; unfold maxLen; omega
                clear hm hm2
                go_wp2_with (at_mapUpdate; refine wpList_mp_set _ rfl _ _ _ 70 rfl 9 4 strKeyed Tryz.underlying70 W.heap.size i (seenGa (ss.take i)) rfl HI2.out.map HLT.out _ _ _ rfl rfl HK1.out ?_; intro w5 hM5 hg5 hz5; have HI5 := Lib.hid (HPUT.out _ _ HI2.out HOK.out hM5 hg5); clear hM5 hg5 hz5)
                go_roundw
                case rel => exact ⟨i + 1, by omega, by go_num, HI5⟩
                case measure => simp [intOf]; omega
              · have hmm : (decide (0 ≤ d.cents) && decide (d.cents ≤ 1000000000000)) = false := by simp; omega
                rw [hmm]
                have HF := Lib.hid (HBAD.out 1 (by simp only [gainErr, HIK.out, HIK2.out]; simp [hm]; omega) (by omega))
                clear hmm hm hm2
                go_wp2_with fail
                go_ret
                exact HF.out
            · have hmm : (decide (0 ≤ d.at_) && decide (d.at_ ≤ 4321439)) = false := by simp; omega
              rw [hmm]
              have HF := Lib.hid (HBAD.out 1 (by simp only [gainErr, HIK.out, HIK2.out]; simp [hm]) (by omega))
              clear hmm hm
              go_wp2_with fail
              go_ret
              exact HF.out
    · have hie : i = ss.length := by omega
      subst hie
      have HF : Hid (ErrPost (gainAt ss) ss.length W (.returned (.int .i64 0)) wr) := ⟨0, rfl, IsErr.good hinv.out.ok, hinv.out.bel⟩
      go_wp2_with fail
      go_ret
      exact HF.out
end Go.Proofs.YtihcmifikbkbcaaGreatDoor

/- What a stream makes: keys. -/
namespace Go.Proofs.YtihcmifikbkbcaaGreatDoor
set_option linter.unusedVariables false
open Go.RowKit
theorem StrsW.grown {W W' : World} {A : Option Addr} {ss : List ByteArray} {bs : Nat} (h : StrsW W A ss) (g : W.grownBy W' (some bs)) (hne : ∀ b off, A = some ⟨b, off, none⟩ → b ≠ bs) : StrsW W' A ss := by
  intro i hi
  obtain ⟨b, off, hA, hc⟩ := h i hi
  exact ⟨b, off, hA, (World.cell?_of_block (a := ⟨b, off + i, none⟩) (g.block b (World.block_lt_of_cell? W _ hc) (fun e => hne b off hA (by injection e)))).trans hc⟩
theorem odd_key {s : ByteArray} (h : s ∈ [(⟨#[]⟩ : ByteArray), ⟨#[75, 101, 121]⟩, ⟨#[49, 97]⟩]) : s.size ≤ 1000 := by
  simp at h
  rcases h with rfl | rfl | rfl
  · show (0 : Nat) ≤ 1000; omega
  · show (3 : Nat) ≤ 1000; omega
  · show (2 : Nat) ≤ 1000; omega
theorem grown_trans' {W W' W'' : World} {r : Option Nat} (h : W.grownBy W' r) (k : W'.grownBy W'' r) : W.grownBy W'' r :=
  ⟨k.os.trans h.os, k.tape.trans h.tape, k.output.trans h.output, Nat.le_trans h.size k.size, fun i hi hne => (k.block i (Nat.lt_of_lt_of_le hi h.size) hne).trans (h.block i hi hne)⟩
theorem grown_alloc' {w : World} (o : Obj) (row : Option Nat) : w.grownBy (w.alloc o) row := ⟨rfl, rfl, rfl, by simp, fun k hk _ => heap_lt hk⟩
set_option maxHeartbeats 400000 in
theorem Lw.key {w W : World} {bs K : Nat} {H : Frz} (h : Lw w bs K H W) (A : Option Addr) (cap : Nat) (ss : List ByteArray) (hA : StrsW W A ss) (hne : ∀ b off, A = some ⟨b, off, none⟩ → b ≠ bs)
    (h0 : 0 < ss.length) (hl : ss.length ≤ 1000000) (hsz : ∀ s ∈ ss, s.size ≤ 1000) (hK : K ≤ 1000000000) :
    Calls Tryz.prog 13 #[.pointer (some ⟨bs, 0, none⟩), .slice A ss.length cap] W fun e W' =>
      ∃ s : ByteArray, e = .returned (.string s) ∧ s.size ≤ 1000 ∧ Lw w bs (K + 2) H W' ∧ W.grownBy W' (some bs) := by
  have HA := Lib.hid hA
  have HN := Lib.hid hne
  have HS := Lib.hid hsz
  have HL := Lib.hid h
  clear h hA hne hsz
  go_enter Tryz.func13, Tryz.ntmps13
  go_wp2_with fail
  refine (HL.out.flip 40 (by omega) (by omega)).mono ?_
  rintro e W1 ⟨t, rfl, L1, g1, -⟩
  have HL1 := Lib.hid L1
  have HG1 := Lib.hid g1
  have HA1 := Lib.hid (HA.out.grown g1 HN.out)
  clear L1 g1
  cases t with
  | true =>
    have hlt := HL1.out.lt
    have hSt : StrsW (W1.alloc (.cells #[.string ⟨#[]⟩, .string ⟨#[75, 101, 121]⟩, .string ⟨#[49, 97]⟩] 9)) (some ⟨W1.heap.size, 0, none⟩) [⟨#[]⟩, ⟨#[75, 101, 121]⟩, ⟨#[49, 97]⟩] := StrsW.of_row (heap_at rfl) rfl
    have HSt := Lib.hid hSt
    clear hSt
    go_wp2_with fail
    refine ((HL1.out.alloc _).one _ _ [⟨#[]⟩, ⟨#[75, 101, 121]⟩, ⟨#[49, 97]⟩] HSt.out (fun b off e => by injection e with e; injection e with e1 e2; omega) (by simp) (by simp) (by omega)).mono ?_
    rintro e W2 ⟨s, rfl, hs, L2, g2, -⟩
    have HF : Hid (s.size ≤ 1000 ∧ Lw w bs (K + 2) H W2 ∧ W.grownBy W2 (some bs)) := ⟨odd_key hs, L2.more (by omega), grown_trans' (grown_trans' HG1.out (grown_alloc' _ _)) g2⟩
    clear hs L2 g2 HSt
    go_wp2_with fail
    go_ret
    exact ⟨s, rfl, HF.out⟩
  | false =>
    go_wp2_with fail
    refine (HL1.out.one A cap ss HA1.out HN.out h0 hl (by omega)).mono ?_
    rintro e W2 ⟨s, rfl, hs, L2, g2, -⟩
    have HF : Hid (s.size ≤ 1000 ∧ Lw w bs (K + 2) H W2 ∧ W.grownBy W2 (some bs)) := ⟨HS.out s hs, L2.more (by omega), grown_trans' HG1.out g2⟩
    clear hs L2 g2
    go_wp2_with fail
    go_ret
    exact ⟨s, rfl, HF.out⟩
end Go.Proofs.YtihcmifikbkbcaaGreatDoor

/- What a stream makes: letters that were sent. -/
namespace Go.Proofs.YtihcmifikbkbcaaGreatDoor
set_option linter.unusedVariables false
open Go.RowKit
theorem infoSent : (Tryz.prog.info? 47).map (fun i => (i.zero, i.size, i.bytes)) = some (some (.agg #[.string ⟨#[]⟩, .string ⟨#[]⟩, .string ⟨#[]⟩, .int .i64 0]), 4, 56) := by kernel_rfl
theorem SzS.snoc {ds : List SentD} (h : SzS ds) {d : SentD} (hd : d.id.size ≤ 1000 ∧ d.person.size ≤ 1000 ∧ d.letter.size ≤ 1000 ∧ -10000000 ≤ d.at_ ∧ d.at_ ≤ 10000000) : SzS (ds ++ [d]) := by
  intro y hy
  rcases List.mem_append.1 hy with hy | hy
  · exact h y hy
  · simp at hy; rw [hy]; exact hd
theorem SzS.set {ds : List SentD} (h : SzS ds) {d : SentD} {p : Nat} (hd : d.id.size ≤ 1000 ∧ d.person.size ≤ 1000 ∧ d.letter.size ≤ 1000 ∧ -10000000 ≤ d.at_ ∧ d.at_ ≤ 10000000) : SzS (ds.set p d) := by
  intro y hy
  rcases List.mem_or_eq_of_mem_set hy with hy | hy
  · exact h y hy
  · rw [hy]; exact hd
def chr (i : Nat) : ByteArray := ⟨#[(97 + i).toUInt8]⟩
theorem conv1_0 (w : World) : (convert 3 21 (.int .i64 (97 + ((0 : Nat) : Int)))).run Tryz.prog w = .ok (.int .i32 (97 + ((0 : Nat) : Int))) w := by kernel_rfl
theorem conv2_0 (w : World) : (convert 21 9 (.int .i32 (97 + ((0 : Nat) : Int)))).run Tryz.prog w = .ok (.string (chr 0)) w := by kernel_rfl
theorem conv1_1 (w : World) : (convert 3 21 (.int .i64 (97 + ((1 : Nat) : Int)))).run Tryz.prog w = .ok (.int .i32 (97 + ((1 : Nat) : Int))) w := by kernel_rfl
theorem conv2_1 (w : World) : (convert 21 9 (.int .i32 (97 + ((1 : Nat) : Int)))).run Tryz.prog w = .ok (.string (chr 1)) w := by kernel_rfl
theorem conv1_2 (w : World) : (convert 3 21 (.int .i64 (97 + ((2 : Nat) : Int)))).run Tryz.prog w = .ok (.int .i32 (97 + ((2 : Nat) : Int))) w := by kernel_rfl
theorem conv2_2 (w : World) : (convert 21 9 (.int .i32 (97 + ((2 : Nat) : Int)))).run Tryz.prog w = .ok (.string (chr 2)) w := by kernel_rfl
theorem conv1_3 (w : World) : (convert 3 21 (.int .i64 (97 + ((3 : Nat) : Int)))).run Tryz.prog w = .ok (.int .i32 (97 + ((3 : Nat) : Int))) w := by kernel_rfl
theorem conv2_3 (w : World) : (convert 21 9 (.int .i32 (97 + ((3 : Nat) : Int)))).run Tryz.prog w = .ok (.string (chr 3)) w := by kernel_rfl
theorem conv1_4 (w : World) : (convert 3 21 (.int .i64 (97 + ((4 : Nat) : Int)))).run Tryz.prog w = .ok (.int .i32 (97 + ((4 : Nat) : Int))) w := by kernel_rfl
theorem conv2_4 (w : World) : (convert 21 9 (.int .i32 (97 + ((4 : Nat) : Int)))).run Tryz.prog w = .ok (.string (chr 4)) w := by kernel_rfl
theorem conv1_5 (w : World) : (convert 3 21 (.int .i64 (97 + ((5 : Nat) : Int)))).run Tryz.prog w = .ok (.int .i32 (97 + ((5 : Nat) : Int))) w := by kernel_rfl
theorem conv2_5 (w : World) : (convert 21 9 (.int .i32 (97 + ((5 : Nat) : Int)))).run Tryz.prog w = .ok (.string (chr 5)) w := by kernel_rfl
theorem conv1_6 (w : World) : (convert 3 21 (.int .i64 (97 + ((6 : Nat) : Int)))).run Tryz.prog w = .ok (.int .i32 (97 + ((6 : Nat) : Int))) w := by kernel_rfl
theorem conv2_6 (w : World) : (convert 21 9 (.int .i32 (97 + ((6 : Nat) : Int)))).run Tryz.prog w = .ok (.string (chr 6)) w := by kernel_rfl
theorem conv1_7 (w : World) : (convert 3 21 (.int .i64 (97 + ((7 : Nat) : Int)))).run Tryz.prog w = .ok (.int .i32 (97 + ((7 : Nat) : Int))) w := by kernel_rfl
theorem conv2_7 (w : World) : (convert 21 9 (.int .i32 (97 + ((7 : Nat) : Int)))).run Tryz.prog w = .ok (.string (chr 7)) w := by kernel_rfl
theorem conv1_8 (w : World) : (convert 3 21 (.int .i64 (97 + ((8 : Nat) : Int)))).run Tryz.prog w = .ok (.int .i32 (97 + ((8 : Nat) : Int))) w := by kernel_rfl
theorem conv2_8 (w : World) : (convert 21 9 (.int .i32 (97 + ((8 : Nat) : Int)))).run Tryz.prog w = .ok (.string (chr 8)) w := by kernel_rfl
theorem conv1 (i : Nat) (hi : i < 9) (w : World) : (convert 3 21 (.int .i64 (97 + (i : Int)))).run Tryz.prog w = .ok (.int .i32 (97 + (i : Int))) w := by
  have hc : i = 0 ∨ i = 1 ∨ i = 2 ∨ i = 3 ∨ i = 4 ∨ i = 5 ∨ i = 6 ∨ i = 7 ∨ i = 8 := by omega
  rcases hc with rfl | rfl | rfl | rfl | rfl | rfl | rfl | rfl | rfl
  · exact conv1_0 w
  · exact conv1_1 w
  · exact conv1_2 w
  · exact conv1_3 w
  · exact conv1_4 w
  · exact conv1_5 w
  · exact conv1_6 w
  · exact conv1_7 w
  · exact conv1_8 w
theorem conv2 (i : Nat) (hi : i < 9) (w : World) : (convert 21 9 (.int .i32 (97 + (i : Int)))).run Tryz.prog w = .ok (.string (chr i)) w := by
  have hc : i = 0 ∨ i = 1 ∨ i = 2 ∨ i = 3 ∨ i = 4 ∨ i = 5 ∨ i = 6 ∨ i = 7 ∨ i = 8 := by omega
  rcases hc with rfl | rfl | rfl | rfl | rfl | rfl | rfl | rfl | rfl
  · exact conv2_0 w
  · exact conv2_1 w
  · exact conv2_2 w
  · exact conv2_3 w
  · exact conv2_4 w
  · exact conv2_5 w
  · exact conv2_6 w
  · exact conv2_7 w
  · exact conv2_8 w
theorem size1 {s : ByteArray} {l : List ByteArray} (h : s ∈ l) (hl : l.all (fun x => decide (x.size ≤ 1000)) = true) : s.size ≤ 1000 := by
  have := List.all_eq_true.1 hl s h
  simpa using this
abbrev SM4 := RM (D := SentD) 47 4 fSe
def SentPost (w : World) (bs K : Nat) (H : Frz) (B : Nat) (e : Ending) (W' : World) : Prop := ∃ v ds, e = .returned v ∧ SM4 w bs (K + 120) H B v ds W' ∧ ds.length ≤ 8 ∧ SzS ds
set_option maxHeartbeats 4000000 in
set_option maxRecDepth 100000 in
theorem Lw.sentList {w W : World} {bs K : Nat} {H : Frz} (h : Lw w bs K H W) (hK : K ≤ 1000000) :
    Calls Tryz.prog 4 #[.pointer (some ⟨bs, 0, none⟩), .int .i64 8] W (SentPost w bs K H W.heap.size) := by
  obtain ⟨i0, hi0, hz0, hz1, hz2⟩ := info_parts infoSent
  have hbs := h.lt
  have C0 := Lib.hid (RM.new (T := 47) (k := 4) (f := fSe) h)
  clear h
  go_enter Tryz.func4, Tryz.ntmps4
  go_wp2_with fail
  refine (C0.out.lw.next' 9 (by omega) (by omega) (by omega)).mono ?_
  rintro e W1 ⟨r, rfl, r0, r1, Lq, gq, -⟩
  have C1 := Lib.hid (C0.out.asked Lq gq)
  clear Lq gq C0
  obtain ⟨r, rfl⟩ := Int.eq_ofNat_of_zero_le r0
  have hr9 : r ≤ 8 := by omega
  go_wp2_with fail
  go_loopw [5, 6, 13] (fun v a t wr => ∃ (i : Nat) (at_ : Int) (ds : List SentD), i ≤ r ∧ t = .int .i64 i ∧ a = .int .i64 at_ ∧ 0 ≤ at_ ∧ at_ ≤ 100 * i ∧ Hid (SM4 w bs (K + 1 + 10 * i) H W.heap.size v ds wr) ∧ ds.length ≤ i ∧ SzS ds) (fun _ _ t _ => r - (intOf t).toNat)
  case atStart => exact ⟨0, 0, [], by omega, rfl, rfl, by omega, by omega, C1, by simp, (by intro d hd; cases hd)⟩
  case round =>
    obtain ⟨i, at_, ds, hi, rfl, rfl, a0, a1, C, hdl, hsz⟩ := hrel
    clear C1
    by_cases hlt : i < r
    · have HSZ := Lib.hid hsz
      clear hsz
      have hne := C.out.lw.lt
      have hIn : Ints (wr.alloc (.cells #[.int .i64 0, .int .i64 1, .int .i64 10, .int .i64 100] 3)) (some ⟨wr.heap.size, 0, none⟩) [0, 1, 10, 100] := Ints.of_row (heap_at rfl) rfl
      have HIn := Lib.hid hIn
      clear hIn
      go_wp2_with fail
      refine ((C.out.alloc _).lw.pick _ _ [0, 1, 10, 100] HIn.out (fun b off e => by injection e with e; injection e with e1 e2; omega) (by simp) (by simp) (by omega)).mono ?_
      rintro e W2 ⟨st, rfl, hst, Lq, gq, -⟩
      have C2 := Lib.hid ((C.out.alloc _).asked Lq gq)
      clear Lq gq HIn hne C
      have hst2 : 0 ≤ st ∧ st ≤ 100 := by simp at hst; omega
      clear hst
      have hch : (chr i).size ≤ 1 := Nat.le_refl 1
      have k1 := fun w => conv1 i (by omega) w
      have k2 := fun w => conv2 i (by omega) w
      have hne := C2.out.lw.lt
      have hSt : StrsW (W2.alloc (.cells #[.string ⟨#[97, 110, 110]⟩, .string ⟨#[98, 111]⟩] 9)) (some ⟨W2.heap.size, 0, none⟩) [⟨#[97, 110, 110]⟩, ⟨#[98, 111]⟩] := StrsW.of_row (heap_at rfl) rfl
      have HSt := Lib.hid hSt
      clear hSt
      go_wp2_with fail
      refine ((C2.out.alloc _).lw.key _ _ [⟨#[97, 110, 110]⟩, ⟨#[98, 111]⟩] HSt.out (fun b off e => by injection e with e; injection e with e1 e2; omega) (by simp) (by simp) (fun s h => size1 h (by decide)) (by omega)).mono ?_
      rintro e W3 ⟨pe, rfl, hpe, Lq, gq⟩
      have C3 := Lib.hid ((C2.out.alloc _).asked Lq gq)
      clear Lq gq HSt hne C2
      have hidb : ((⟨#[115]⟩ : ByteArray) ++ chr i).size ≤ 1000 := by
        rw [ByteArray.size_append]
        show 1 + (chr i).size ≤ 1000
        omega
      generalize (⟨#[115]⟩ : ByteArray) ++ chr i = idb at hidb
      clear k1 k2
      have hne := C3.out.lw.lt
      have hSt : StrsW (W3.alloc (.cells #[.string ⟨#[104, 101, 108, 108, 111]⟩, .string ⟨#[110, 101, 119, 115]⟩, .string ⟨#[111, 102, 102, 101, 114]⟩] 9)) (some ⟨W3.heap.size, 0, none⟩) [⟨#[104, 101, 108, 108, 111]⟩, ⟨#[110, 101, 119, 115]⟩, ⟨#[111, 102, 102, 101, 114]⟩] := StrsW.of_row (heap_at rfl) rfl
      have HSt := Lib.hid hSt
      clear hSt
      go_wp2_with fail
      refine ((C3.out.alloc _).lw.key _ _ [⟨#[104, 101, 108, 108, 111]⟩, ⟨#[110, 101, 119, 115]⟩, ⟨#[111, 102, 102, 101, 114]⟩] HSt.out (fun b off e => by injection e with e; injection e with e1 e2; omega) (by simp) (by simp) (fun s h => size1 h (by decide)) (by omega)).mono ?_
      rintro e W4 ⟨le, rfl, hle, Lq, gq⟩
      have C4 := Lib.hid ((C3.out.alloc _).asked Lq gq)
      clear Lq gq HSt hne C3
      generalize han : at_ + st = an at *
      have a0' : 0 ≤ an := by omega
      have a1' : an ≤ 100 * (i + 1) := by omega
      clear han hst2
      have HOr := Lib.hid C4.out.row
      have HST := Lib.hid (fun v' W' o g1 at1 => C4.out.app (v' := v') (W' := W') (ds' := ds ++ [⟨idb, pe, le, an⟩]) o g1 at1)
      have hB9 := C4.out.2.2.2.2
      go_wp2_with (at_builtin; refine wpList_app_at rfl _ _ 26 rfl W.heap.size 47 i0 (.agg #[.string ⟨#[]⟩, .string ⟨#[]⟩, .string ⟨#[]⟩, .int .i64 0]) 4 56 Tryz.underlying26 hi0 hz0 hz1 hz2 rfl (by decide) fSe _ ds rfl HOr.out ⟨idb, pe, le, an⟩ #[.string idb, .string pe, .string le, .int .i64 an] 47 rfl rfl (by simp [Value.oneCell']) (by omega) (by omega) hB9 ?_; intro v1 w2 o1 g1 b1 at1; have CA := Lib.hid (HST.out _ _ o1 g1 at1); clear o1 g1 b1 at1 HST HOr C4)
      go_roundw
      case rel => exact ⟨i + 1, an, _, by omega, by go_num, rfl, a0', by omega, CA.out.more (by omega), by simp; omega, HSZ.out.snoc ⟨hidb, hpe, hle, by show -10000000 ≤ an; omega, by show an ≤ 10000000; omega⟩⟩
      case measure => simp [intOf]; omega
    · have hie : i = r := by omega
      subst hie
      have HSZ := Lib.hid hsz
      have hdl8 : ds.length ≤ 8 := by omega
      clear hsz
      go_wp2_with fail
      refine (C.out.lw.flip 12 (by omega) (by omega)).mono ?_
      rintro e W2 ⟨t, rfl, Lq, gq, -⟩
      have C2 := Lib.hid (C.out.asked Lq gq)
      clear Lq gq C
      cases t with
      | false =>
        go_wp2_with fail
        go_ret
        exact ⟨_, ds, rfl, C2.out.more (by omega), hdl8, HSZ.out⟩
      | true =>
        by_cases hds : ds = []
        · obtain ⟨Au, capu, hu, hleu⟩ := C2.out.row.slice
          have C2' := C2
          subst hds
          simp only [List.length_nil] at hu
          subst hu
          go_wp2_with fail
          go_ret
          exact ⟨_, [], rfl, C2'.out.more (by omega), by simp, HSZ.out⟩
        · have hpos : 0 < ds.length := List.length_pos_iff.2 hds
          obtain ⟨go, capg, rest, hv, hleg, hBg, hglt, hmg, hblk, hrg⟩ := C2.out.row.form hds
          subst hv
          have hp2 : (0 : Int) < ds.length := by omega
          clear hblk hglt
          go_wp2_with fail
          refine (C2.out.lw.next' _ (by omega) (by omega) (by omega)).mono ?_
          rintro e W3 ⟨p, rfl, p0, p1, Lq, gq, -⟩
          have C3 := Lib.hid (C2.out.asked Lq gq)
          clear Lq gq C2
          obtain ⟨p, rfl⟩ := Int.eq_ofNat_of_zero_le p0
          go_wp2_with fail
          refine (C3.out.lw.next' 3 (by omega) (by omega) (by omega)).mono ?_
          rintro e W4 ⟨sw, rfl, sw0, sw1, Lq, gq, -⟩
          have C4 := Lib.hid (C3.out.asked Lq gq)
          clear Lq gq C3
          have hcs : sw = 0 ∨ sw = 1 ∨ sw = 2 := by omega
          have hpl : p < ds.length := by omega
          have hkp := HSZ.out _ (List.getElem_mem hpl)
          rcases hcs with rfl | rfl | rfl
          · have hne := C4.out.lw.lt
            have hSt : StrsW (W4.alloc (.cells #[.string ⟨#[]⟩, .string ⟨#[115, 97]⟩, .string ⟨#[83]⟩] 9)) (some ⟨W4.heap.size, 0, none⟩) [⟨#[]⟩, ⟨#[115, 97]⟩, ⟨#[83]⟩] := StrsW.of_row (heap_at rfl) rfl
            have HSt := Lib.hid hSt
            clear hSt
            go_wp2_with fail
            refine ((C4.out.alloc _).lw.one _ _ [⟨#[]⟩, ⟨#[115, 97]⟩, ⟨#[83]⟩] HSt.out (fun b off e => by injection e with e; injection e with e1 e2; omega) (by simp) (by simp) (by omega)).mono ?_
            rintro e W5 ⟨z, rfl, hz, Lq, gq, -⟩
            have C5 := Lib.hid ((C4.out.alloc _).asked Lq gq)
            clear Lq gq HSt hne C4
            have C6 := C5.out
            obtain ⟨cell1, fr1, hfin⟩ := C6.upd hpl (j := 0) (by omega) ⟨z, ds[p].person, ds[p].letter, ds[p].at_⟩ (x := .string z) rfl (by intro m hm hne; have : m = 1 ∨ m = 2 ∨ m = 3 := (by omega); rcases this with rfl | rfl | rfl <;> rfl)
            try simp only [Nat.add_zero] at cell1 fr1 hfin
            have HFIN := Lib.hid hfin
            have HKB := Lib.hid (HSZ.out.set (p := p) (d := ⟨z, ds[p].person, ds[p].letter, ds[p].at_⟩) ⟨size1 hz (by decide), hkp.2⟩)
            clear C5 C6 hfin hz
            go_wp2_with fail
            go_ret
            exact ⟨_, _, rfl, HFIN.out.more (by omega), by simpa using hdl8, HKB.out⟩
          · have hne := C4.out.lw.lt
            have hIn : Ints (W4.alloc (.cells #[.int .i64 (-1), .int .i64 4321440, .int .i64 0] 3)) (some ⟨W4.heap.size, 0, none⟩) [-1, 4321440, 0] := Ints.of_row (heap_at rfl) rfl
            have HIn := Lib.hid hIn
            clear hIn
            go_wp2_with fail
            refine ((C4.out.alloc _).lw.pick _ _ [-1, 4321440, 0] HIn.out (fun b off e => by injection e with e; injection e with e1 e2; omega) (by simp) (by simp) (by omega)).mono ?_
            rintro e W5 ⟨z, rfl, hz, Lq, gq, -⟩
            have C5 := Lib.hid ((C4.out.alloc _).asked Lq gq)
            clear Lq gq HIn hne C4
            have C6 := C5.out
            obtain ⟨cell1, fr1, hfin⟩ := C6.upd hpl (j := 3) (by omega) ⟨ds[p].id, ds[p].person, ds[p].letter, z⟩ (x := .int .i64 z) rfl (by intro m hm hne; have : m = 0 ∨ m = 1 ∨ m = 2 := (by omega); rcases this with rfl | rfl | rfl <;> rfl)
            try simp only [Nat.add_zero] at cell1 fr1 hfin
            have HFIN := Lib.hid hfin
            have HKB := Lib.hid (HSZ.out.set (p := p) (d := ⟨ds[p].id, ds[p].person, ds[p].letter, z⟩) ⟨hkp.1, hkp.2.1, hkp.2.2.1, by show -10000000 ≤ z; simp at hz; omega, by show z ≤ 10000000; simp at hz; omega⟩)
            clear C5 C6 hfin hz
            go_wp2_with fail
            go_ret
            exact ⟨_, _, rfl, HFIN.out.more (by omega), by simpa using hdl8, HKB.out⟩
          · have hne := C4.out.lw.lt
            have hSt : StrsW (W4.alloc (.cells #[.string ⟨#[]⟩, .string ⟨#[88]⟩] 9)) (some ⟨W4.heap.size, 0, none⟩) [⟨#[]⟩, ⟨#[88]⟩] := StrsW.of_row (heap_at rfl) rfl
            have HSt := Lib.hid hSt
            clear hSt
            go_wp2_with fail
            refine ((C4.out.alloc _).lw.one _ _ [⟨#[]⟩, ⟨#[88]⟩] HSt.out (fun b off e => by injection e with e; injection e with e1 e2; omega) (by simp) (by simp) (by omega)).mono ?_
            rintro e W5 ⟨z, rfl, hz, Lq, gq, -⟩
            have C5 := Lib.hid ((C4.out.alloc _).asked Lq gq)
            clear Lq gq HSt hne C4
            have C6 := C5.out
            obtain ⟨cell1, fr1, hfin⟩ := C6.upd hpl (j := 2) (by omega) ⟨ds[p].id, ds[p].person, z, ds[p].at_⟩ (x := .string z) rfl (by intro m hm hne; have : m = 0 ∨ m = 1 ∨ m = 3 := (by omega); rcases this with rfl | rfl | rfl <;> rfl)
            try simp only [Nat.add_zero] at cell1 fr1 hfin
            have HFIN := Lib.hid hfin
            have HKB := Lib.hid (HSZ.out.set (p := p) (d := ⟨ds[p].id, ds[p].person, z, ds[p].at_⟩) ⟨hkp.1, hkp.2.1, size1 hz (by decide), hkp.2.2.2⟩)
            clear C5 C6 hfin hz
            go_wp2_with fail
            go_ret
            exact ⟨_, _, rfl, HFIN.out.more (by omega), by simpa using hdl8, HKB.out⟩
end Go.Proofs.YtihcmifikbkbcaaGreatDoor

/- What a stream makes: letters that were sent, up to 20. -/
namespace Go.Proofs.YtihcmifikbkbcaaGreatDoor
set_option linter.unusedVariables false
open Go.RowKit
theorem convA_0 (w : World) : (convert 3 21 (.int .i64 (97 + ((0 : Nat) : Int)))).run Tryz.prog w = .ok (.int .i32 (97 + ((0 : Nat) : Int))) w := by kernel_rfl
theorem convB_0 (w : World) : (convert 21 9 (.int .i32 (97 + ((0 : Nat) : Int)))).run Tryz.prog w = .ok (.string (chr 0)) w := by kernel_rfl
theorem convA_1 (w : World) : (convert 3 21 (.int .i64 (97 + ((1 : Nat) : Int)))).run Tryz.prog w = .ok (.int .i32 (97 + ((1 : Nat) : Int))) w := by kernel_rfl
theorem convB_1 (w : World) : (convert 21 9 (.int .i32 (97 + ((1 : Nat) : Int)))).run Tryz.prog w = .ok (.string (chr 1)) w := by kernel_rfl
theorem convA_2 (w : World) : (convert 3 21 (.int .i64 (97 + ((2 : Nat) : Int)))).run Tryz.prog w = .ok (.int .i32 (97 + ((2 : Nat) : Int))) w := by kernel_rfl
theorem convB_2 (w : World) : (convert 21 9 (.int .i32 (97 + ((2 : Nat) : Int)))).run Tryz.prog w = .ok (.string (chr 2)) w := by kernel_rfl
theorem convA_3 (w : World) : (convert 3 21 (.int .i64 (97 + ((3 : Nat) : Int)))).run Tryz.prog w = .ok (.int .i32 (97 + ((3 : Nat) : Int))) w := by kernel_rfl
theorem convB_3 (w : World) : (convert 21 9 (.int .i32 (97 + ((3 : Nat) : Int)))).run Tryz.prog w = .ok (.string (chr 3)) w := by kernel_rfl
theorem convA_4 (w : World) : (convert 3 21 (.int .i64 (97 + ((4 : Nat) : Int)))).run Tryz.prog w = .ok (.int .i32 (97 + ((4 : Nat) : Int))) w := by kernel_rfl
theorem convB_4 (w : World) : (convert 21 9 (.int .i32 (97 + ((4 : Nat) : Int)))).run Tryz.prog w = .ok (.string (chr 4)) w := by kernel_rfl
theorem convA_5 (w : World) : (convert 3 21 (.int .i64 (97 + ((5 : Nat) : Int)))).run Tryz.prog w = .ok (.int .i32 (97 + ((5 : Nat) : Int))) w := by kernel_rfl
theorem convB_5 (w : World) : (convert 21 9 (.int .i32 (97 + ((5 : Nat) : Int)))).run Tryz.prog w = .ok (.string (chr 5)) w := by kernel_rfl
theorem convA_6 (w : World) : (convert 3 21 (.int .i64 (97 + ((6 : Nat) : Int)))).run Tryz.prog w = .ok (.int .i32 (97 + ((6 : Nat) : Int))) w := by kernel_rfl
theorem convB_6 (w : World) : (convert 21 9 (.int .i32 (97 + ((6 : Nat) : Int)))).run Tryz.prog w = .ok (.string (chr 6)) w := by kernel_rfl
theorem convA_7 (w : World) : (convert 3 21 (.int .i64 (97 + ((7 : Nat) : Int)))).run Tryz.prog w = .ok (.int .i32 (97 + ((7 : Nat) : Int))) w := by kernel_rfl
theorem convB_7 (w : World) : (convert 21 9 (.int .i32 (97 + ((7 : Nat) : Int)))).run Tryz.prog w = .ok (.string (chr 7)) w := by kernel_rfl
theorem convA_8 (w : World) : (convert 3 21 (.int .i64 (97 + ((8 : Nat) : Int)))).run Tryz.prog w = .ok (.int .i32 (97 + ((8 : Nat) : Int))) w := by kernel_rfl
theorem convB_8 (w : World) : (convert 21 9 (.int .i32 (97 + ((8 : Nat) : Int)))).run Tryz.prog w = .ok (.string (chr 8)) w := by kernel_rfl
theorem convA_9 (w : World) : (convert 3 21 (.int .i64 (97 + ((9 : Nat) : Int)))).run Tryz.prog w = .ok (.int .i32 (97 + ((9 : Nat) : Int))) w := by kernel_rfl
theorem convB_9 (w : World) : (convert 21 9 (.int .i32 (97 + ((9 : Nat) : Int)))).run Tryz.prog w = .ok (.string (chr 9)) w := by kernel_rfl
theorem convA_10 (w : World) : (convert 3 21 (.int .i64 (97 + ((10 : Nat) : Int)))).run Tryz.prog w = .ok (.int .i32 (97 + ((10 : Nat) : Int))) w := by kernel_rfl
theorem convB_10 (w : World) : (convert 21 9 (.int .i32 (97 + ((10 : Nat) : Int)))).run Tryz.prog w = .ok (.string (chr 10)) w := by kernel_rfl
theorem convA_11 (w : World) : (convert 3 21 (.int .i64 (97 + ((11 : Nat) : Int)))).run Tryz.prog w = .ok (.int .i32 (97 + ((11 : Nat) : Int))) w := by kernel_rfl
theorem convB_11 (w : World) : (convert 21 9 (.int .i32 (97 + ((11 : Nat) : Int)))).run Tryz.prog w = .ok (.string (chr 11)) w := by kernel_rfl
theorem convA_12 (w : World) : (convert 3 21 (.int .i64 (97 + ((12 : Nat) : Int)))).run Tryz.prog w = .ok (.int .i32 (97 + ((12 : Nat) : Int))) w := by kernel_rfl
theorem convB_12 (w : World) : (convert 21 9 (.int .i32 (97 + ((12 : Nat) : Int)))).run Tryz.prog w = .ok (.string (chr 12)) w := by kernel_rfl
theorem convA_13 (w : World) : (convert 3 21 (.int .i64 (97 + ((13 : Nat) : Int)))).run Tryz.prog w = .ok (.int .i32 (97 + ((13 : Nat) : Int))) w := by kernel_rfl
theorem convB_13 (w : World) : (convert 21 9 (.int .i32 (97 + ((13 : Nat) : Int)))).run Tryz.prog w = .ok (.string (chr 13)) w := by kernel_rfl
theorem convA_14 (w : World) : (convert 3 21 (.int .i64 (97 + ((14 : Nat) : Int)))).run Tryz.prog w = .ok (.int .i32 (97 + ((14 : Nat) : Int))) w := by kernel_rfl
theorem convB_14 (w : World) : (convert 21 9 (.int .i32 (97 + ((14 : Nat) : Int)))).run Tryz.prog w = .ok (.string (chr 14)) w := by kernel_rfl
theorem convA_15 (w : World) : (convert 3 21 (.int .i64 (97 + ((15 : Nat) : Int)))).run Tryz.prog w = .ok (.int .i32 (97 + ((15 : Nat) : Int))) w := by kernel_rfl
theorem convB_15 (w : World) : (convert 21 9 (.int .i32 (97 + ((15 : Nat) : Int)))).run Tryz.prog w = .ok (.string (chr 15)) w := by kernel_rfl
theorem convA_16 (w : World) : (convert 3 21 (.int .i64 (97 + ((16 : Nat) : Int)))).run Tryz.prog w = .ok (.int .i32 (97 + ((16 : Nat) : Int))) w := by kernel_rfl
theorem convB_16 (w : World) : (convert 21 9 (.int .i32 (97 + ((16 : Nat) : Int)))).run Tryz.prog w = .ok (.string (chr 16)) w := by kernel_rfl
theorem convA_17 (w : World) : (convert 3 21 (.int .i64 (97 + ((17 : Nat) : Int)))).run Tryz.prog w = .ok (.int .i32 (97 + ((17 : Nat) : Int))) w := by kernel_rfl
theorem convB_17 (w : World) : (convert 21 9 (.int .i32 (97 + ((17 : Nat) : Int)))).run Tryz.prog w = .ok (.string (chr 17)) w := by kernel_rfl
theorem convA_18 (w : World) : (convert 3 21 (.int .i64 (97 + ((18 : Nat) : Int)))).run Tryz.prog w = .ok (.int .i32 (97 + ((18 : Nat) : Int))) w := by kernel_rfl
theorem convB_18 (w : World) : (convert 21 9 (.int .i32 (97 + ((18 : Nat) : Int)))).run Tryz.prog w = .ok (.string (chr 18)) w := by kernel_rfl
theorem convA_19 (w : World) : (convert 3 21 (.int .i64 (97 + ((19 : Nat) : Int)))).run Tryz.prog w = .ok (.int .i32 (97 + ((19 : Nat) : Int))) w := by kernel_rfl
theorem convB_19 (w : World) : (convert 21 9 (.int .i32 (97 + ((19 : Nat) : Int)))).run Tryz.prog w = .ok (.string (chr 19)) w := by kernel_rfl
theorem convA_20 (w : World) : (convert 3 21 (.int .i64 (97 + ((20 : Nat) : Int)))).run Tryz.prog w = .ok (.int .i32 (97 + ((20 : Nat) : Int))) w := by kernel_rfl
theorem convB_20 (w : World) : (convert 21 9 (.int .i32 (97 + ((20 : Nat) : Int)))).run Tryz.prog w = .ok (.string (chr 20)) w := by kernel_rfl
theorem convA (i : Nat) (hi : i < 21) (w : World) : (convert 3 21 (.int .i64 (97 + (i : Int)))).run Tryz.prog w = .ok (.int .i32 (97 + (i : Int))) w := by
  have hc : i = 0 ∨ i = 1 ∨ i = 2 ∨ i = 3 ∨ i = 4 ∨ i = 5 ∨ i = 6 ∨ i = 7 ∨ i = 8 ∨ i = 9 ∨ i = 10 ∨ i = 11 ∨ i = 12 ∨ i = 13 ∨ i = 14 ∨ i = 15 ∨ i = 16 ∨ i = 17 ∨ i = 18 ∨ i = 19 ∨ i = 20 := by omega
  rcases hc with rfl | rfl | rfl | rfl | rfl | rfl | rfl | rfl | rfl | rfl | rfl | rfl | rfl | rfl | rfl | rfl | rfl | rfl | rfl | rfl | rfl
  · exact convA_0 w
  · exact convA_1 w
  · exact convA_2 w
  · exact convA_3 w
  · exact convA_4 w
  · exact convA_5 w
  · exact convA_6 w
  · exact convA_7 w
  · exact convA_8 w
  · exact convA_9 w
  · exact convA_10 w
  · exact convA_11 w
  · exact convA_12 w
  · exact convA_13 w
  · exact convA_14 w
  · exact convA_15 w
  · exact convA_16 w
  · exact convA_17 w
  · exact convA_18 w
  · exact convA_19 w
  · exact convA_20 w
theorem convB (i : Nat) (hi : i < 21) (w : World) : (convert 21 9 (.int .i32 (97 + (i : Int)))).run Tryz.prog w = .ok (.string (chr i)) w := by
  have hc : i = 0 ∨ i = 1 ∨ i = 2 ∨ i = 3 ∨ i = 4 ∨ i = 5 ∨ i = 6 ∨ i = 7 ∨ i = 8 ∨ i = 9 ∨ i = 10 ∨ i = 11 ∨ i = 12 ∨ i = 13 ∨ i = 14 ∨ i = 15 ∨ i = 16 ∨ i = 17 ∨ i = 18 ∨ i = 19 ∨ i = 20 := by omega
  rcases hc with rfl | rfl | rfl | rfl | rfl | rfl | rfl | rfl | rfl | rfl | rfl | rfl | rfl | rfl | rfl | rfl | rfl | rfl | rfl | rfl | rfl
  · exact convB_0 w
  · exact convB_1 w
  · exact convB_2 w
  · exact convB_3 w
  · exact convB_4 w
  · exact convB_5 w
  · exact convB_6 w
  · exact convB_7 w
  · exact convB_8 w
  · exact convB_9 w
  · exact convB_10 w
  · exact convB_11 w
  · exact convB_12 w
  · exact convB_13 w
  · exact convB_14 w
  · exact convB_15 w
  · exact convB_16 w
  · exact convB_17 w
  · exact convB_18 w
  · exact convB_19 w
  · exact convB_20 w
def SentPostN (w : World) (bs K : Nat) (H : Frz) (B : Nat) (e : Ending) (W' : World) : Prop := ∃ v ds, e = .returned v ∧ SM4 w bs (K + 300) H B v ds W' ∧ ds.length ≤ 20 ∧ SzS ds
set_option maxHeartbeats 4000000 in
set_option maxRecDepth 100000 in
theorem Lw.sentListN {w W : World} {bs K : Nat} {H : Frz} (h : Lw w bs K H W) (hK : K ≤ 1000000) :
    Calls Tryz.prog 4 #[.pointer (some ⟨bs, 0, none⟩), .int .i64 20] W (SentPostN w bs K H W.heap.size) := by
  obtain ⟨i0, hi0, hz0, hz1, hz2⟩ := info_parts infoSent
  have hbs := h.lt
  have C0 := Lib.hid (RM.new (T := 47) (k := 4) (f := fSe) h)
  clear h
  go_enter Tryz.func4, Tryz.ntmps4
  go_wp2_with fail
  refine (C0.out.lw.next' 21 (by omega) (by omega) (by omega)).mono ?_
  rintro e W1 ⟨r, rfl, r0, r1, Lq, gq, -⟩
  have C1 := Lib.hid (C0.out.asked Lq gq)
  clear Lq gq C0
  obtain ⟨r, rfl⟩ := Int.eq_ofNat_of_zero_le r0
  have hr9 : r ≤ 20 := by omega
  go_wp2_with fail
  go_loopw [5, 6, 13] (fun v a t wr => ∃ (i : Nat) (at_ : Int) (ds : List SentD), i ≤ r ∧ t = .int .i64 i ∧ a = .int .i64 at_ ∧ 0 ≤ at_ ∧ at_ ≤ 100 * i ∧ Hid (SM4 w bs (K + 1 + 10 * i) H W.heap.size v ds wr) ∧ ds.length ≤ i ∧ SzS ds) (fun _ _ t _ => r - (intOf t).toNat)
  case atStart => exact ⟨0, 0, [], by omega, rfl, rfl, by omega, by omega, C1, by simp, (by intro d hd; cases hd)⟩
  case round =>
    obtain ⟨i, at_, ds, hi, rfl, rfl, a0, a1, C, hdl, hsz⟩ := hrel
    clear C1
    by_cases hlt : i < r
    · have HSZ := Lib.hid hsz
      clear hsz
      have hne := C.out.lw.lt
      have hIn : Ints (wr.alloc (.cells #[.int .i64 0, .int .i64 1, .int .i64 10, .int .i64 100] 3)) (some ⟨wr.heap.size, 0, none⟩) [0, 1, 10, 100] := Ints.of_row (heap_at rfl) rfl
      have HIn := Lib.hid hIn
      clear hIn
      go_wp2_with fail
      refine ((C.out.alloc _).lw.pick _ _ [0, 1, 10, 100] HIn.out (fun b off e => by injection e with e; injection e with e1 e2; omega) (by simp) (by simp) (by omega)).mono ?_
      rintro e W2 ⟨st, rfl, hst, Lq, gq, -⟩
      have C2 := Lib.hid ((C.out.alloc _).asked Lq gq)
      clear Lq gq HIn hne C
      have hst2 : 0 ≤ st ∧ st ≤ 100 := by simp at hst; omega
      clear hst
      have hch : (chr i).size ≤ 1 := Nat.le_refl 1
      have k1 := fun w => convA i (by omega) w
      have k2 := fun w => convB i (by omega) w
      have hne := C2.out.lw.lt
      have hSt : StrsW (W2.alloc (.cells #[.string ⟨#[97, 110, 110]⟩, .string ⟨#[98, 111]⟩] 9)) (some ⟨W2.heap.size, 0, none⟩) [⟨#[97, 110, 110]⟩, ⟨#[98, 111]⟩] := StrsW.of_row (heap_at rfl) rfl
      have HSt := Lib.hid hSt
      clear hSt
      go_wp2_with fail
      refine ((C2.out.alloc _).lw.key _ _ [⟨#[97, 110, 110]⟩, ⟨#[98, 111]⟩] HSt.out (fun b off e => by injection e with e; injection e with e1 e2; omega) (by simp) (by simp) (fun s h => size1 h (by decide)) (by omega)).mono ?_
      rintro e W3 ⟨pe, rfl, hpe, Lq, gq⟩
      have C3 := Lib.hid ((C2.out.alloc _).asked Lq gq)
      clear Lq gq HSt hne C2
      have hidb : ((⟨#[115]⟩ : ByteArray) ++ chr i).size ≤ 1000 := by
        rw [ByteArray.size_append]
        show 1 + (chr i).size ≤ 1000
        omega
      generalize (⟨#[115]⟩ : ByteArray) ++ chr i = idb at hidb
      clear k1 k2
      have hne := C3.out.lw.lt
      have hSt : StrsW (W3.alloc (.cells #[.string ⟨#[104, 101, 108, 108, 111]⟩, .string ⟨#[110, 101, 119, 115]⟩, .string ⟨#[111, 102, 102, 101, 114]⟩] 9)) (some ⟨W3.heap.size, 0, none⟩) [⟨#[104, 101, 108, 108, 111]⟩, ⟨#[110, 101, 119, 115]⟩, ⟨#[111, 102, 102, 101, 114]⟩] := StrsW.of_row (heap_at rfl) rfl
      have HSt := Lib.hid hSt
      clear hSt
      go_wp2_with fail
      refine ((C3.out.alloc _).lw.key _ _ [⟨#[104, 101, 108, 108, 111]⟩, ⟨#[110, 101, 119, 115]⟩, ⟨#[111, 102, 102, 101, 114]⟩] HSt.out (fun b off e => by injection e with e; injection e with e1 e2; omega) (by simp) (by simp) (fun s h => size1 h (by decide)) (by omega)).mono ?_
      rintro e W4 ⟨le, rfl, hle, Lq, gq⟩
      have C4 := Lib.hid ((C3.out.alloc _).asked Lq gq)
      clear Lq gq HSt hne C3
      generalize han : at_ + st = an at *
      have a0' : 0 ≤ an := by omega
      have a1' : an ≤ 100 * (i + 1) := by omega
      clear han hst2
      have HOr := Lib.hid C4.out.row
      have HST := Lib.hid (fun v' W' o g1 at1 => C4.out.app (v' := v') (W' := W') (ds' := ds ++ [⟨idb, pe, le, an⟩]) o g1 at1)
      have hB9 := C4.out.2.2.2.2
      go_wp2_with (at_builtin; refine wpList_app_at rfl _ _ 26 rfl W.heap.size 47 i0 (.agg #[.string ⟨#[]⟩, .string ⟨#[]⟩, .string ⟨#[]⟩, .int .i64 0]) 4 56 Tryz.underlying26 hi0 hz0 hz1 hz2 rfl (by decide) fSe _ ds rfl HOr.out ⟨idb, pe, le, an⟩ #[.string idb, .string pe, .string le, .int .i64 an] 47 rfl rfl (by simp [Value.oneCell']) (by omega) (by omega) hB9 ?_; intro v1 w2 o1 g1 b1 at1; have CA := Lib.hid (HST.out _ _ o1 g1 at1); clear o1 g1 b1 at1 HST HOr C4)
      go_roundw
      case rel => exact ⟨i + 1, an, _, by omega, by go_num, rfl, a0', by omega, CA.out.more (by omega), by simp; omega, HSZ.out.snoc ⟨hidb, hpe, hle, by show -10000000 ≤ an; omega, by show an ≤ 10000000; omega⟩⟩
      case measure => simp [intOf]; omega
    · have hie : i = r := by omega
      subst hie
      have HSZ := Lib.hid hsz
      have hdl8 : ds.length ≤ 20 := by omega
      clear hsz
      go_wp2_with fail
      refine (C.out.lw.flip 12 (by omega) (by omega)).mono ?_
      rintro e W2 ⟨t, rfl, Lq, gq, -⟩
      have C2 := Lib.hid (C.out.asked Lq gq)
      clear Lq gq C
      cases t with
      | false =>
        go_wp2_with fail
        go_ret
        exact ⟨_, ds, rfl, C2.out.more (by omega), hdl8, HSZ.out⟩
      | true =>
        by_cases hds : ds = []
        · obtain ⟨Au, capu, hu, hleu⟩ := C2.out.row.slice
          have C2' := C2
          subst hds
          simp only [List.length_nil] at hu
          subst hu
          go_wp2_with fail
          go_ret
          exact ⟨_, [], rfl, C2'.out.more (by omega), by simp, HSZ.out⟩
        · have hpos : 0 < ds.length := List.length_pos_iff.2 hds
          obtain ⟨go, capg, rest, hv, hleg, hBg, hglt, hmg, hblk, hrg⟩ := C2.out.row.form hds
          subst hv
          have hp2 : (0 : Int) < ds.length := by omega
          clear hblk hglt
          go_wp2_with fail
          refine (C2.out.lw.next' _ (by omega) (by omega) (by omega)).mono ?_
          rintro e W3 ⟨p, rfl, p0, p1, Lq, gq, -⟩
          have C3 := Lib.hid (C2.out.asked Lq gq)
          clear Lq gq C2
          obtain ⟨p, rfl⟩ := Int.eq_ofNat_of_zero_le p0
          go_wp2_with fail
          refine (C3.out.lw.next' 3 (by omega) (by omega) (by omega)).mono ?_
          rintro e W4 ⟨sw, rfl, sw0, sw1, Lq, gq, -⟩
          have C4 := Lib.hid (C3.out.asked Lq gq)
          clear Lq gq C3
          have hcs : sw = 0 ∨ sw = 1 ∨ sw = 2 := by omega
          have hpl : p < ds.length := by omega
          have hkp := HSZ.out _ (List.getElem_mem hpl)
          rcases hcs with rfl | rfl | rfl
          · have hne := C4.out.lw.lt
            have hSt : StrsW (W4.alloc (.cells #[.string ⟨#[]⟩, .string ⟨#[115, 97]⟩, .string ⟨#[83]⟩] 9)) (some ⟨W4.heap.size, 0, none⟩) [⟨#[]⟩, ⟨#[115, 97]⟩, ⟨#[83]⟩] := StrsW.of_row (heap_at rfl) rfl
            have HSt := Lib.hid hSt
            clear hSt
            go_wp2_with fail
            refine ((C4.out.alloc _).lw.one _ _ [⟨#[]⟩, ⟨#[115, 97]⟩, ⟨#[83]⟩] HSt.out (fun b off e => by injection e with e; injection e with e1 e2; omega) (by simp) (by simp) (by omega)).mono ?_
            rintro e W5 ⟨z, rfl, hz, Lq, gq, -⟩
            have C5 := Lib.hid ((C4.out.alloc _).asked Lq gq)
            clear Lq gq HSt hne C4
            have C6 := C5.out
            obtain ⟨cell1, fr1, hfin⟩ := C6.upd hpl (j := 0) (by omega) ⟨z, ds[p].person, ds[p].letter, ds[p].at_⟩ (x := .string z) rfl (by intro m hm hne; have : m = 1 ∨ m = 2 ∨ m = 3 := (by omega); rcases this with rfl | rfl | rfl <;> rfl)
            try simp only [Nat.add_zero] at cell1 fr1 hfin
            have HFIN := Lib.hid hfin
            have HKB := Lib.hid (HSZ.out.set (p := p) (d := ⟨z, ds[p].person, ds[p].letter, ds[p].at_⟩) ⟨size1 hz (by decide), hkp.2⟩)
            clear C5 C6 hfin hz
            go_wp2_with fail
            go_ret
            exact ⟨_, _, rfl, HFIN.out.more (by omega), by simpa using hdl8, HKB.out⟩
          · have hne := C4.out.lw.lt
            have hIn : Ints (W4.alloc (.cells #[.int .i64 (-1), .int .i64 4321440, .int .i64 0] 3)) (some ⟨W4.heap.size, 0, none⟩) [-1, 4321440, 0] := Ints.of_row (heap_at rfl) rfl
            have HIn := Lib.hid hIn
            clear hIn
            go_wp2_with fail
            refine ((C4.out.alloc _).lw.pick _ _ [-1, 4321440, 0] HIn.out (fun b off e => by injection e with e; injection e with e1 e2; omega) (by simp) (by simp) (by omega)).mono ?_
            rintro e W5 ⟨z, rfl, hz, Lq, gq, -⟩
            have C5 := Lib.hid ((C4.out.alloc _).asked Lq gq)
            clear Lq gq HIn hne C4
            have C6 := C5.out
            obtain ⟨cell1, fr1, hfin⟩ := C6.upd hpl (j := 3) (by omega) ⟨ds[p].id, ds[p].person, ds[p].letter, z⟩ (x := .int .i64 z) rfl (by intro m hm hne; have : m = 0 ∨ m = 1 ∨ m = 2 := (by omega); rcases this with rfl | rfl | rfl <;> rfl)
            try simp only [Nat.add_zero] at cell1 fr1 hfin
            have HFIN := Lib.hid hfin
            have HKB := Lib.hid (HSZ.out.set (p := p) (d := ⟨ds[p].id, ds[p].person, ds[p].letter, z⟩) ⟨hkp.1, hkp.2.1, hkp.2.2.1, by show -10000000 ≤ z; simp at hz; omega, by show z ≤ 10000000; simp at hz; omega⟩)
            clear C5 C6 hfin hz
            go_wp2_with fail
            go_ret
            exact ⟨_, _, rfl, HFIN.out.more (by omega), by simpa using hdl8, HKB.out⟩
          · have hne := C4.out.lw.lt
            have hSt : StrsW (W4.alloc (.cells #[.string ⟨#[]⟩, .string ⟨#[88]⟩] 9)) (some ⟨W4.heap.size, 0, none⟩) [⟨#[]⟩, ⟨#[88]⟩] := StrsW.of_row (heap_at rfl) rfl
            have HSt := Lib.hid hSt
            clear hSt
            go_wp2_with fail
            refine ((C4.out.alloc _).lw.one _ _ [⟨#[]⟩, ⟨#[88]⟩] HSt.out (fun b off e => by injection e with e; injection e with e1 e2; omega) (by simp) (by simp) (by omega)).mono ?_
            rintro e W5 ⟨z, rfl, hz, Lq, gq, -⟩
            have C5 := Lib.hid ((C4.out.alloc _).asked Lq gq)
            clear Lq gq HSt hne C4
            have C6 := C5.out
            obtain ⟨cell1, fr1, hfin⟩ := C6.upd hpl (j := 2) (by omega) ⟨ds[p].id, ds[p].person, z, ds[p].at_⟩ (x := .string z) rfl (by intro m hm hne; have : m = 0 ∨ m = 1 ∨ m = 3 := (by omega); rcases this with rfl | rfl | rfl <;> rfl)
            try simp only [Nat.add_zero] at cell1 fr1 hfin
            have HFIN := Lib.hid hfin
            have HKB := Lib.hid (HSZ.out.set (p := p) (d := ⟨ds[p].id, ds[p].person, z, ds[p].at_⟩) ⟨hkp.1, hkp.2.1, size1 hz (by decide), hkp.2.2.2⟩)
            clear C5 C6 hfin hz
            go_wp2_with fail
            go_ret
            exact ⟨_, _, rfl, HFIN.out.more (by omega), by simpa using hdl8, HKB.out⟩
end Go.Proofs.YtihcmifikbkbcaaGreatDoor

/- What a stream makes: gains. -/
namespace Go.Proofs.YtihcmifikbkbcaaGreatDoor
set_option linter.unusedVariables false
open Go.RowKit
theorem infoGain : (Tryz.prog.info? 40).map (fun i => (i.zero, i.size, i.bytes)) = some (some (.agg #[.string ⟨#[]⟩, .string ⟨#[]⟩, .int .i64 0, .int .i64 0]), 4, 48) := by kernel_rfl
def BdG (d : GainD) : Prop := d.id.size ≤ 1000 ∧ d.person.size ≤ 1000 ∧ -10000000 ≤ d.at_ ∧ d.at_ ≤ 10000000 ∧ -10000000000000 ≤ d.cents ∧ d.cents ≤ 10000000000000
theorem SzG.snoc {ds : List GainD} (h : SzG ds) {d : GainD} (hd : BdG d) : SzG (ds ++ [d]) := by
  intro y hy
  rcases List.mem_append.1 hy with hy | hy
  · exact h y hy
  · simp at hy; rw [hy]; exact hd
theorem SzG.set {ds : List GainD} (h : SzG ds) {d : GainD} {p : Nat} (hd : BdG d) : SzG (ds.set p d) := by
  intro y hy
  rcases List.mem_or_eq_of_mem_set hy with hy | hy
  · exact h y hy
  · rw [hy]; exact hd
def AtB (bs : Nat) (w : World) (g : Nat) (o : Obj) : Prop := g ≠ bs ∧ w.heap[g]? = some o
def E9 (bs go : Nat) (w w' : World) : Prop := ∀ b, b < w.heap.size → b ≠ bs → b ≠ go → w'.heap[b]? = w.heap[b]?
theorem E9.refl (bs go : Nat) (w : World) : E9 bs go w w := fun _ _ _ _ => rfl
theorem E9.of {bs go : Nat} {w w' : World} (h : Below w.heap.size w w') : E9 bs go w w' := fun b hb _ _ => h.block b hb
theorem E9.grown {bs go : Nat} {w w' : World} (h : w.grownBy w' (some bs)) : E9 bs go w w' := fun b hb h1 _ => h.block b hb (fun e => h1 (by injection e))
/-- A slice of three elements, made for a call. -/
def T3 (bs go : Nat) (v : Value) (cs : Array Value) (T : TypeId) (w : World) : Prop := ∃ g, v = .slice (some ⟨g, 0, none⟩) 3 3 ∧ g ≠ go ∧ g ≠ bs ∧ w.heap[g]? = some (.cells cs T (0, 0))
theorem T3.mono {bs go : Nat} {v : Value} {cs : Array Value} {T : TypeId} {w w' : World} (e : E9 bs go w w') (h : T3 bs go v cs T w) : T3 bs go v cs T w' := by
  obtain ⟨g, h1, h2, h3, h4⟩ := h
  exact ⟨g, h1, h2, h3, (e g (lt_of_heap h4) h3 h2).trans h4⟩
abbrev GM4 := RM (D := GainD) 40 4 fGa
/-- The row while one of its elements is written. -/
def J9 (w : World) (bs K : Nat) (H : Frz) (B go n capg : Nat) (W' : World) : Prop := ∃ ds', ds'.length = n ∧ SzG ds' ∧ GM4 w bs K H B (.slice (some ⟨go, 0, none⟩) n capg) ds' W'
theorem J9.call {w : World} {bs K : Nat} {H : Frz} {B go n capg : Nat} {W W' : World} (h : J9 w bs K H B go n capg W) (hb : Below W.heap.size W W') : J9 w bs K H B go n capg W' := by
  obtain ⟨ds', h1, h2, h3⟩ := h
  exact ⟨ds', h1, h2, h3.call hb⟩
theorem J9.more {w : World} {bs K K' : Nat} {H : Frz} {B go n capg : Nat} {W : World} (h : J9 w bs K H B go n capg W) (hk : K ≤ K') : J9 w bs K' H B go n capg W := by
  obtain ⟨ds', h1, h2, h3⟩ := h
  exact ⟨ds', h1, h2, h3.more hk⟩
theorem J9.asked {w : World} {bs K K' : Nat} {H : Frz} {B go n capg : Nat} {W W' : World} (h : J9 w bs K H B go n capg W) (L : Lw w bs K' H W') (g : W.grownBy W' (some bs)) : J9 w bs K' H B go n capg W' := by
  obtain ⟨ds', h1, h2, h3⟩ := h
  exact ⟨ds', h1, h2, h3.asked L g⟩
theorem J9.lw {w : World} {bs K : Nat} {H : Frz} {B go n capg : Nat} {W : World} (h : J9 w bs K H B go n capg W) : Lw w bs K H W ∧ W.heap.size > go := by
  obtain ⟨ds', h1, h2, h3⟩ := h
  exact ⟨h3.lw, (h3.row.lt rfl).2⟩
theorem J9.cell {w : World} {bs K : Nat} {H : Frz} {B go n capg : Nat} {W : World} (h : J9 w bs K H B go n capg W) {p : Nat} (hp : p < n) :
    ∃ d : GainD, BdG d ∧ W.cell? ⟨go, p * 4, none⟩ = some (.string d.id) ∧ W.cell? ⟨go, p * 4 + 1, none⟩ = some (.string d.person) ∧ W.cell? ⟨go, p * 4 + 2, none⟩ = some (.int .i64 d.at_) ∧ W.cell? ⟨go, p * 4 + 3, none⟩ = some (.int .i64 d.cents) := by
  obtain ⟨ds', rfl, h2, h3⟩ := h
  have c := fun (j : Nat) (hj : j < 4) => (h3.upd hp (j := j) hj ds'[p] (x := fGa ds'[p] j) rfl (fun _ _ _ => rfl)).1
  exact ⟨ds'[p], h2 _ (List.getElem_mem hp), c 0 (by omega), c 1 (by omega), c 2 (by omega), c 3 (by omega)⟩
theorem J9.set {w : World} {bs K : Nat} {H : Frz} {B go n capg : Nat} {W : World} (h : J9 w bs K H B go n capg W) {p j : Nat} (hp : p < n) (hj : j < 4) (x : Value) (hd : ∀ d, BdG d → ∃ d', BdG d' ∧ fGa d' j = x ∧ ∀ m, m < 4 → m ≠ j → fGa d' m = fGa d m) :
    W.frozen? ⟨go, p * 4 + j, none⟩ = false ∧ (∃ y, W.cell? ⟨go, p * 4 + j, none⟩ = some y) ∧ J9 w bs K H B go n capg (W.setCell ⟨go, p * 4 + j, none⟩ x) := by
  obtain ⟨ds', rfl, h2, h3⟩ := h
  obtain ⟨d', h4, h5, h6⟩ := hd _ (h2 _ (List.getElem_mem hp))
  obtain ⟨c1, f1, hf⟩ := h3.upd hp hj d' h5 h6
  exact ⟨f1, ⟨_, c1⟩, ds'.set p d', by simp, h2.set h4, by simpa using hf⟩
def φ9 (bs go p : Nat) : Nat → Value → World → Prop
  | 0, u, _ => u = .pointer (some ⟨go, p * 4, none⟩)
  | 1, u, _ => u = .pointer (some ⟨go, p * 4, none⟩)
  | 2, u, _ => u = .pointer (some ⟨go, p * 4, none⟩)
  | 3, u, _ => u = .pointer (some ⟨bs, 0, none⟩)
  | 4, u, _ => u = .pointer (some ⟨go, p * 4, none⟩)
  | 5, u, _ => u = .pointer (some ⟨go, p * 4, none⟩)
  | 6, u, _ => u = .pointer (some ⟨go, p * 4, none⟩)
  | 7, u, _ => ∃ s : ByteArray, u = .string s ∧ s.size ≤ 1000
  | 8, u, w => ∃ s : ByteArray, s.size ≤ 1000 ∧ T3 bs go u #[.string ⟨#[]⟩, .string ⟨#[103, 97]⟩, .string s] 9 w
  | 9, u, _ => ∃ s : ByteArray, u = .string s ∧ s.size ≤ 1000
  | 10, u, _ => u = .pointer (some ⟨bs, 0, none⟩)
  | 11, u, w => T3 bs go u #[.int .i64 (-1), .int .i64 1000000000001, .int .i64 5] 3 w
  | 12, u, _ => ∃ z : Int, u = .int .i64 z ∧ -10000000000000 ≤ z ∧ z ≤ 10000000000000
  | 13, u, _ => u = .pointer (some ⟨bs, 0, none⟩)
  | 14, u, _ => u = .pointer (some ⟨go, p * 4, none⟩)
  | 15, u, _ => u = .pointer (some ⟨go, p * 4, none⟩)
  | 16, u, _ => u = .pointer (some ⟨go, p * 4 + 2, none⟩)
  | 17, u, _ => ∃ z : Int, u = .int .i64 z ∧ -10000000 ≤ z ∧ z ≤ 10000000
  | 18, u, w => ∃ z : Int, (-10000000 ≤ z ∧ z ≤ 10000000) ∧ T3 bs go u #[.int .i64 (-1), .int .i64 z, .int .i64 4321440] 3 w
  | 19, u, _ => ∃ z : Int, u = .int .i64 z ∧ -10000000 ≤ z ∧ z ≤ 10000000
  | 20, u, _ => u = .pointer (some ⟨go, p * 4, none⟩)
  | 21, u, _ => u = .pointer (some ⟨go, p * 4, none⟩)
  | 23, u, _ => u = .pointer (some ⟨go, p * 4, none⟩)
  | 24, u, _ => u = .pointer (some ⟨go, p * 4 + 3, none⟩)
  | 26, u, _ => u = .pointer (some ⟨go, p * 4, none⟩)
  | 27, u, _ => u = .pointer (some ⟨go, p * 4 + 2, none⟩)
  | _, _, _ => True
theorem φ9_mono {bs go p : Nat} (i : Nat) (u : Value) (w w' : World) (hi : i < 28) (e : E9 bs go w w') (h : φ9 bs go p i u w) : φ9 bs go p i u w' := by
  have hcs : i = 0 ∨ i = 1 ∨ i = 2 ∨ i = 3 ∨ i = 4 ∨ i = 5 ∨ i = 6 ∨ i = 7 ∨ i = 8 ∨ i = 9 ∨ i = 10 ∨ i = 11 ∨ i = 12 ∨ i = 13 ∨ i = 14 ∨ i = 15 ∨ i = 16 ∨ i = 17 ∨ i = 18 ∨ i = 19 ∨ i = 20 ∨ i = 21 ∨ i = 22 ∨ i = 23 ∨ i = 24 ∨ i = 25 ∨ i = 26 ∨ i = 27 := by omega
  rcases hcs with rfl | rfl | rfl | rfl | rfl | rfl | rfl | rfl | rfl | rfl | rfl | rfl | rfl | rfl | rfl | rfl | rfl | rfl | rfl | rfl | rfl | rfl | rfl | rfl | rfl | rfl | rfl | rfl
  · exact h
  · exact h
  · exact h
  · exact h
  · exact h
  · exact h
  · exact h
  · exact h
  · obtain ⟨z, h1, h2⟩ := h; exact ⟨z, h1, h2.mono e⟩
  · exact h
  · exact h
  · exact T3.mono e h
  · exact h
  · exact h
  · exact h
  · exact h
  · exact h
  · exact h
  · obtain ⟨z, h1, h2⟩ := h; exact ⟨z, h1, h2.mono e⟩
  · exact h
  · exact h
  · exact h
  · exact h
  · exact h
  · exact h
  · exact h
  · exact h
  · exact h
def GainPost (w : World) (bs K : Nat) (H : Frz) (B : Nat) (e : Ending) (W' : World) : Prop := ∃ v ds, e = .returned v ∧ GM4 w bs (K + 120) H B v ds W' ∧ ds.length ≤ 4 ∧ SzG ds
set_option maxHeartbeats 4000000 in
set_option maxRecDepth 100000 in
theorem Lw.gains {w W : World} {bs K : Nat} {H : Frz} (h : Lw w bs K H W) (hK : K ≤ 1000000) :
    Calls Tryz.prog 5 #[.pointer (some ⟨bs, 0, none⟩)] W (GainPost w bs K H W.heap.size) := by
  obtain ⟨i0, hi0, hz0, hz1, hz2⟩ := info_parts infoGain
  have hbs := h.lt
  have C0 := Lib.hid (RM.new (T := 40) (k := 4) (f := fGa) h)
  clear h
  go_enter Tryz.func5, Tryz.ntmps5
  go_wp2_with fail
  refine (C0.out.lw.next' 5 (by omega) (by omega) (by omega)).mono ?_
  rintro e W1 ⟨r, rfl, r0, r1, Lq, gq, -⟩
  have C1 := Lib.hid (C0.out.asked Lq gq)
  clear Lq gq C0
  obtain ⟨r, rfl⟩ := Int.eq_ofNat_of_zero_le r0
  have hr4 : r ≤ 4 := by omega
  go_wp2_with fail
  go_loopw [3, 8] (fun v t wr => ∃ (i : Nat) (ds : List GainD), i ≤ r ∧ t = .int .i64 i ∧ Hid (GM4 w bs (K + 1 + 10 * i) H W.heap.size v ds wr) ∧ ds.length ≤ i ∧ SzG ds) (fun _ t _ => r - (intOf t).toNat)
  case atStart => exact ⟨0, [], by omega, rfl, C1, by simp, (by intro d hd; cases hd)⟩
  case round =>
    obtain ⟨i, ds, hi, rfl, C, hdl, hsz⟩ := hrel
    clear C1
    by_cases hlt : i < r
    · have HSZ := Lib.hid hsz
      clear hsz
      have hch : (chr i).size ≤ 1 := Nat.le_refl 1
      have k1 := fun w => convA i (by omega) w
      have k2 := fun w => convB i (by omega) w
      have hne := C.out.lw.lt
      have hSt : StrsW (wr.alloc (.cells #[.string ⟨#[97, 110, 110]⟩, .string ⟨#[97, 110, 110]⟩, .string ⟨#[98, 111]⟩, .string ⟨#[99, 121]⟩] 9)) (some ⟨wr.heap.size, 0, none⟩) [⟨#[97, 110, 110]⟩, ⟨#[97, 110, 110]⟩, ⟨#[98, 111]⟩, ⟨#[99, 121]⟩] := StrsW.of_row (heap_at rfl) rfl
      have HSt := Lib.hid hSt
      clear hSt
      go_wp2_with fail
      refine ((C.out.alloc _).lw.key _ _ [⟨#[97, 110, 110]⟩, ⟨#[97, 110, 110]⟩, ⟨#[98, 111]⟩, ⟨#[99, 121]⟩] HSt.out (fun b off e => by injection e with e; injection e with e1 e2; omega) (by simp) (by simp) (fun s h => size1 h (by decide)) (by omega)).mono ?_
      rintro e W3 ⟨pe, rfl, hpe, Lq, gq⟩
      have C3 := Lib.hid ((C.out.alloc _).asked Lq gq)
      clear Lq gq HSt hne C
      have hidb : ((⟨#[103]⟩ : ByteArray) ++ chr i).size ≤ 1000 := by
        rw [ByteArray.size_append]
        show 1 + (chr i).size ≤ 1000
        omega
      generalize (⟨#[103]⟩ : ByteArray) ++ chr i = idb at *
      clear k1 k2
      go_wp2_with fail
      refine (C3.out.lw.next' 500 (by omega) (by omega) (by omega)).mono ?_
      rintro e W4 ⟨an, rfl, an0, an1, Lq, gq, -⟩
      have C4 := Lib.hid (C3.out.asked Lq gq)
      clear Lq gq C3
      have hne := C4.out.lw.lt
      have hIn : Ints (W4.alloc (.cells #[.int .i64 0, .int .i64 1, .int .i64 99, .int .i64 100, .int .i64 1000, .int .i64 1000000000000] 3)) (some ⟨W4.heap.size, 0, none⟩) [0, 1, 99, 100, 1000, 1000000000000] := Ints.of_row (heap_at rfl) rfl
      have HIn := Lib.hid hIn
      clear hIn
      go_wp2_with fail
      refine ((C4.out.alloc _).lw.pick _ _ [0, 1, 99, 100, 1000, 1000000000000] HIn.out (fun b off e => by injection e with e; injection e with e1 e2; omega) (by simp) (by simp) (by omega)).mono ?_
      rintro e W5 ⟨ce, rfl, hce, Lq, gq, -⟩
      have C5 := Lib.hid ((C4.out.alloc _).asked Lq gq)
      clear Lq gq HIn hne C4
      have hce2 : 0 ≤ ce ∧ ce ≤ 1000000000000 := by simp at hce; omega
      clear hce
      have HOr := Lib.hid C5.out.row
      have HST := Lib.hid (fun v' W' o g1 at1 => C5.out.app (v' := v') (W' := W') (ds' := ds ++ [⟨idb, pe, an, ce⟩]) o g1 at1)
      have hB9 := C5.out.2.2.2.2
      go_wp2_with (at_builtin; refine wpList_app_at rfl _ _ 28 rfl W.heap.size 40 i0 (.agg #[.string ⟨#[]⟩, .string ⟨#[]⟩, .int .i64 0, .int .i64 0]) 4 48 Tryz.underlying28 hi0 hz0 hz1 hz2 rfl (by decide) fGa _ ds rfl HOr.out ⟨idb, pe, an, ce⟩ #[.string idb, .string pe, .int .i64 an, .int .i64 ce] 40 rfl rfl (by simp [Value.oneCell']) (by omega) (by omega) hB9 ?_; intro v1 w2 o1 g1 b1 at1; have CA := Lib.hid (HST.out _ _ o1 g1 at1); clear o1 g1 b1 at1 HST HOr C5)
      go_roundw
      case rel => exact ⟨i + 1, _, by omega, by go_num, CA.out.more (by omega), by simp; omega, HSZ.out.snoc ⟨hidb, hpe, by show -10000000 ≤ an; omega, by show an ≤ 10000000; omega, by show -10000000000000 ≤ ce; omega, by show ce ≤ 10000000000000; omega⟩⟩
      case measure => simp [intOf]; omega
    · have hie : i = r := by omega
      subst hie
      have HSZ := Lib.hid hsz
      have hdl8 : ds.length ≤ 4 := by omega
      clear hsz
      go_wp2_with fail
      refine (C.out.lw.flip 12 (by omega) (by omega)).mono ?_
      rintro e W2 ⟨t, rfl, Lq, gq, -⟩
      have C2 := Lib.hid (C.out.asked Lq gq)
      clear Lq gq C
      cases t with
      | false =>
        go_wp2_with fail
        go_ret
        exact ⟨_, ds, rfl, C2.out.more (by omega), hdl8, HSZ.out⟩
      | true =>
        by_cases hds : ds = []
        · obtain ⟨Au, capu, hu, hleu⟩ := C2.out.row.slice
          have C2' := C2
          subst hds
          simp only [List.length_nil] at hu
          subst hu
          go_wp2_with fail
          go_ret
          exact ⟨_, [], rfl, C2'.out.more (by omega), by simp, HSZ.out⟩
        · have hpos : 0 < ds.length := List.length_pos_iff.2 hds
          obtain ⟨go, capg, rest, hv, hleg, hBg, hglt, hmg, hblk, hrg⟩ := C2.out.row.form hds
          subst hv
          have hp2 : (0 : Int) < ds.length := by omega
          clear hblk hglt
          go_wp2_with fail
          refine (C2.out.lw.next' _ (by omega) (by omega) (by omega)).mono ?_
          rintro e W3 ⟨p, rfl, p0, p1, Lq, gq, -⟩
          have C3 := Lib.hid (C2.out.asked Lq gq)
          clear Lq gq C2
          obtain ⟨p, rfl⟩ := Int.eq_ofNat_of_zero_le p0
          have hpl : p < ds.length := by omega
          have hkp := HSZ.out _ (List.getElem_mem hpl)
          go_upto_region 9 with (fail)
          refine wp_region_concW 28 69 (φ9 bs go p) (fun n W' => J9 w bs (K + 1 + 10 * i + 1 + 1 + n) H W.heap.size go ds.length capg W') (E9 bs go) (by kernel_rfl) (by kernel_rfl) (by rfl) ⟨ds, rfl, HSZ.out, C3.out.call (Below.refl _ _).drew⟩ φ9_mono ?_ ?_ ?_
          · intro j x w hj hd h
            have hcs : j = 0 ∨ j = 1 ∨ j = 2 ∨ j = 3 ∨ j = 4 ∨ j = 5 ∨ j = 6 ∨ j = 7 ∨ j = 8 ∨ j = 9 ∨ j = 10 ∨ j = 11 ∨ j = 12 ∨ j = 13 ∨ j = 14 ∨ j = 15 ∨ j = 16 ∨ j = 17 ∨ j = 18 ∨ j = 19 ∨ j = 20 ∨ j = 21 ∨ j = 22 ∨ j = 23 ∨ j = 24 ∨ j = 25 ∨ j = 26 ∨ j = 27 := by omega
            rcases hcs with rfl | rfl | rfl | rfl | rfl | rfl | rfl | rfl | rfl | rfl | rfl | rfl | rfl | rfl | rfl | rfl | rfl | rfl | rfl | rfl | rfl | rfl | rfl | rfl | rfl | rfl | rfl | rfl <;> first | exact trivial | cases hd
          · intro n o hn ho a W2 kk hkk hJ hkn
            have hcs : n = 0 ∨ n = 1 ∨ n = 2 ∨ n = 3 ∨ n = 4 ∨ n = 5 ∨ n = 6 ∨ n = 7 ∨ n = 8 ∨ n = 9 ∨ n = 10 ∨ n = 11 ∨ n = 12 ∨ n = 13 ∨ n = 14 ∨ n = 15 ∨ n = 16 ∨ n = 17 ∨ n = 18 ∨ n = 19 ∨ n = 20 ∨ n = 21 ∨ n = 22 ∨ n = 23 ∨ n = 24 ∨ n = 25 ∨ n = 26 ∨ n = 27 := by omega
            have hJ2 := hJ.more (show _ ≤ K + 1 + 10 * i + 1 + 1 + (kk + 1) by omega)
            rcases hcs with rfl | rfl | rfl | rfl | rfl | rfl | rfl | rfl | rfl | rfl | rfl | rfl | rfl | rfl | rfl | rfl | rfl | rfl | rfl | rfl | rfl | rfl | rfl | rfl | rfl | rfl | rfl | rfl
            · obtain rfl := Option.some.inj ho
              exact ⟨hkn 5 (by decide), hJ2, E9.refl _ _ _⟩
            · obtain rfl := Option.some.inj ho
              exact ⟨hkn 5 (by decide), hJ2, E9.refl _ _ _⟩
            · obtain rfl := Option.some.inj ho
              exact ⟨hkn 5 (by decide), hJ2, E9.refl _ _ _⟩
            · obtain rfl := Option.some.inj ho
              exact ⟨hkn 0 (by decide), hJ2, E9.refl _ _ _⟩
            · obtain rfl := Option.some.inj ho
              exact ⟨hkn 5 (by decide), hJ2, E9.refl _ _ _⟩
            · obtain rfl := Option.some.inj ho
              have h1 := slotv (hkn 46 (by decide) : a.tmps.getD 46 undef = .pointer (some ⟨go, p * 4, none⟩))
              clear hkn ho
              simp only [OpV, execOp]
              simp [go_sem, h1]
              exact ⟨rfl, hJ2, E9.refl _ _ _⟩
            · obtain rfl := Option.some.inj ho
              have h1 := slotv (hkn 47 (by decide) : a.tmps.getD 47 undef = .pointer (some ⟨go, p * 4, none⟩))
              clear hkn ho
              simp only [OpV, execOp]
              simp [go_sem, h1]
              exact ⟨rfl, hJ2, E9.refl _ _ _⟩
            · obtain rfl := Option.some.inj ho
              have h1 := slotv (hkn 48 (by decide) : a.tmps.getD 48 undef = .pointer (some ⟨go, p * 4, none⟩))
              obtain ⟨d, hd, c0, -, -, -⟩ := hJ.cell hpl
              clear hkn ho
              simp only [OpV, execOp]
              simp [go_sem, h1, c0]
              exact ⟨⟨_, rfl, hd.1⟩, hJ2, E9.refl _ _ _⟩
            · obtain rfl := Option.some.inj ho
              obtain ⟨s, h1, hs⟩ : ∃ s : ByteArray, a.tmps.getD 49 undef = .string s ∧ s.size ≤ 1000 := hkn 49 (by decide)
              replace h1 := slotv h1
              clear hkn ho
              simp only [OpV, execOp]
              simp [go_sem, h1]
              exact ⟨⟨s, hs, W2.heap.size, rfl, by have := hJ.lw.2; omega, by have := hJ.lw.1.lt; omega, heap_alloc_new _ _⟩, hJ2.call (new1 _), E9.of (new1 _)⟩
            · obtain rfl := Option.some.inj ho
              have h1 := slotv (hkn 45 (by decide) : a.tmps.getD 45 undef = .pointer (some ⟨bs, 0, none⟩))
              obtain ⟨s, hs, g, h2, h3, h4, h5⟩ : ∃ s : ByteArray, s.size ≤ 1000 ∧ T3 bs go (a.tmps.getD 50 undef) #[.string ⟨#[]⟩, .string ⟨#[103, 97]⟩, .string s] 9 W2 := hkn 50 (by decide)
              replace h2 := slotv h2
              have hst : StrsW W2 (some ⟨g, 0, none⟩) [⟨#[]⟩, ⟨#[103, 97]⟩, s] := StrsW.of_row h5 rfl
              clear hkn ho
              simp only [OpV, execOp]
              simp [go_sem, h1, h2]
              refine (hJ.lw.1.one (some ⟨g, 0, none⟩) 3 [⟨#[]⟩, ⟨#[103, 97]⟩, s] hst (fun b off e => by injection e with e; injection e with e1 e2; rw [← e1]; exact h4) (by simp) (by simp) (by omega)).mono ?_
              rintro e w'' ⟨z, he, hz, L', g', hz'⟩
              refine ⟨_, he, ⟨z, rfl, ?_⟩, (hJ.asked L' g').more (by omega), E9.grown g'⟩
              simp at hz
              rcases hz with rfl | rfl | rfl
              · decide
              · decide
              · exact hs
            · obtain rfl := Option.some.inj ho
              exact ⟨hkn 0 (by decide), hJ2, E9.refl _ _ _⟩
            · obtain rfl := Option.some.inj ho
              clear hkn ho
              simp only [OpV, execOp]
              simp [go_sem]
              exact ⟨⟨W2.heap.size, rfl, by have := hJ.lw.2; omega, by have := hJ.lw.1.lt; omega, heap_alloc_new _ _⟩, hJ2.call (new1 _), E9.of (new1 _)⟩
            · obtain rfl := Option.some.inj ho
              have h1 := slotv (hkn 52 (by decide) : a.tmps.getD 52 undef = .pointer (some ⟨bs, 0, none⟩))
              obtain ⟨g, h2, h3, h4, h5⟩ : T3 bs go (a.tmps.getD 53 undef) #[.int .i64 (-1), .int .i64 1000000000001, .int .i64 5] 3 W2 := hkn 53 (by decide)
              replace h2 := slotv h2
              clear hkn ho
              simp only [OpV, execOp]
              simp [go_sem, h1, h2]
              refine (hJ.lw.1.pick (some ⟨g, 0, none⟩) 3 [-1, 1000000000001, 5] (Ints.of_row h5 rfl) (fun b off e => by injection e with e; injection e with e1 e2; rw [← e1]; exact h4) (by simp) (by simp) (by omega)).mono ?_
              rintro e w'' ⟨z, he, hz, L', g', hz'⟩
              refine ⟨_, he, ⟨z, rfl, ?_⟩, (hJ.asked L' g').more (by omega), E9.grown g'⟩
              simp at hz
              omega
            · obtain rfl := Option.some.inj ho
              exact ⟨hkn 0 (by decide), hJ2, E9.refl _ _ _⟩
            · obtain rfl := Option.some.inj ho
              exact ⟨hkn 5 (by decide), hJ2, E9.refl _ _ _⟩
            · obtain rfl := Option.some.inj ho
              have h1 := slotv (hkn 56 (by decide) : a.tmps.getD 56 undef = .pointer (some ⟨go, p * 4, none⟩))
              clear hkn ho
              simp only [OpV, execOp]
              simp [go_sem, h1]
              exact ⟨rfl, hJ2, E9.refl _ _ _⟩
            · obtain rfl := Option.some.inj ho
              have h1 := slotv (hkn 57 (by decide) : a.tmps.getD 57 undef = .pointer (some ⟨go, p * 4, none⟩))
              clear hkn ho
              simp only [OpV, execOp]
              simp [go_sem, h1]
              exact ⟨rfl, hJ2, E9.refl _ _ _⟩
            · obtain rfl := Option.some.inj ho
              have h1 := slotv (hkn 58 (by decide) : a.tmps.getD 58 undef = .pointer (some ⟨go, p * 4 + 2, none⟩))
              obtain ⟨d, hd, -, -, c2, -⟩ := hJ.cell hpl
              clear hkn ho
              simp only [OpV, execOp]
              simp [go_sem, h1, c2]
              exact ⟨⟨_, rfl, hd.2.2.1, hd.2.2.2.1⟩, hJ2, E9.refl _ _ _⟩
            · obtain rfl := Option.some.inj ho
              obtain ⟨z, h1, hz1, hz2⟩ : ∃ z : Int, a.tmps.getD 59 undef = .int .i64 z ∧ -10000000 ≤ z ∧ z ≤ 10000000 := hkn 59 (by decide)
              replace h1 := slotv h1
              clear hkn ho
              simp only [OpV, execOp]
              simp [go_sem, h1]
              exact ⟨⟨z, ⟨hz1, hz2⟩, W2.heap.size, rfl, by have := hJ.lw.2; omega, by have := hJ.lw.1.lt; omega, heap_alloc_new _ _⟩, hJ2.call (new1 _), E9.of (new1 _)⟩
            · obtain rfl := Option.some.inj ho
              have h1 := slotv (hkn 55 (by decide) : a.tmps.getD 55 undef = .pointer (some ⟨bs, 0, none⟩))
              obtain ⟨y, hy, g, h2, h3, h4, h5⟩ : ∃ y : Int, (-10000000 ≤ y ∧ y ≤ 10000000) ∧ T3 bs go (a.tmps.getD 60 undef) #[.int .i64 (-1), .int .i64 y, .int .i64 4321440] 3 W2 := hkn 60 (by decide)
              replace h2 := slotv h2
              clear hkn ho
              simp only [OpV, execOp]
              simp [go_sem, h1, h2]
              refine (hJ.lw.1.pick (some ⟨g, 0, none⟩) 3 [-1, y, 4321440] (Ints.of_row h5 rfl) (fun b off e => by injection e with e; injection e with e1 e2; rw [← e1]; exact h4) (by simp) (by simp) (by omega)).mono ?_
              rintro e w'' ⟨z, he, hz, L', g', hz'⟩
              refine ⟨_, he, ⟨z, rfl, ?_⟩, (hJ.asked L' g').more (by omega), E9.grown g'⟩
              simp at hz
              omega
            · obtain rfl := Option.some.inj ho
              have h1 := slotv (hkn 42 (by decide) : a.tmps.getD 42 undef = .pointer (some ⟨go, p * 4, none⟩))
              clear hkn ho
              simp only [OpV, execOp]
              simp [go_sem, h1]
              exact ⟨rfl, hJ2, E9.refl _ _ _⟩
            · obtain rfl := Option.some.inj ho
              have h1 := slotv (hkn 62 (by decide) : a.tmps.getD 62 undef = .pointer (some ⟨go, p * 4, none⟩))
              clear hkn ho
              simp only [OpV, execOp]
              simp [go_sem, h1]
              exact ⟨rfl, hJ2, E9.refl _ _ _⟩
            · obtain rfl := Option.some.inj ho
              have h1 := slotv (hkn 63 (by decide) : a.tmps.getD 63 undef = .pointer (some ⟨go, p * 4, none⟩))
              obtain ⟨s, h2, hs⟩ : ∃ s : ByteArray, a.tmps.getD 51 undef = .string s ∧ s.size ≤ 1000 := hkn 51 (by decide)
              replace h2 := slotv h2
              obtain ⟨hfz, ⟨y, hy⟩, hset⟩ := hJ2.set hpl (j := 0) (by omega) (.string s) (fun d hd => ⟨⟨s, d.person, d.at_, d.cents⟩, ⟨hs, hd.2⟩, rfl, fun m hm hne => by have : m = 1 ∨ m = 2 ∨ m = 3 := (by omega); rcases this with rfl | rfl | rfl <;> rfl⟩)
              try simp only [Nat.add_zero] at hfz hy hset
              clear hkn ho
              simp only [OpV, execOp]
              simp [go_sem, h1, h2, hy, hfz]
              exact ⟨trivial, hset, fun b hb _ hne => Below.heap_setCell W2 _ _ b hne⟩
            · obtain rfl := Option.some.inj ho
              have h1 := slotv (hkn 43 (by decide) : a.tmps.getD 43 undef = .pointer (some ⟨go, p * 4, none⟩))
              clear hkn ho
              simp only [OpV, execOp]
              simp [go_sem, h1]
              exact ⟨rfl, hJ2, E9.refl _ _ _⟩
            · obtain rfl := Option.some.inj ho
              have h1 := slotv (hkn 64 (by decide) : a.tmps.getD 64 undef = .pointer (some ⟨go, p * 4, none⟩))
              clear hkn ho
              simp only [OpV, execOp]
              simp [go_sem, h1]
              exact ⟨rfl, hJ2, E9.refl _ _ _⟩
            · obtain rfl := Option.some.inj ho
              have h1 := slotv (hkn 65 (by decide) : a.tmps.getD 65 undef = .pointer (some ⟨go, p * 4 + 3, none⟩))
              obtain ⟨z, h2, hz1, hz2⟩ : ∃ z : Int, a.tmps.getD 54 undef = .int .i64 z ∧ -10000000000000 ≤ z ∧ z ≤ 10000000000000 := hkn 54 (by decide)
              replace h2 := slotv h2
              obtain ⟨hfz, ⟨y, hy⟩, hset⟩ := hJ2.set hpl (j := 3) (by omega) (.int .i64 z) (fun d hd => ⟨⟨d.id, d.person, d.at_, z⟩, ⟨hd.1, hd.2.1, hd.2.2.1, hd.2.2.2.1, hz1, hz2⟩, rfl, fun m hm hne => by have : m = 0 ∨ m = 1 ∨ m = 2 := (by omega); rcases this with rfl | rfl | rfl <;> rfl⟩)
              try simp only [Nat.add_zero] at hfz hy hset
              clear hkn ho
              simp only [OpV, execOp]
              simp [go_sem, h1, h2, hy, hfz]
              exact ⟨trivial, hset, fun b hb _ hne => Below.heap_setCell W2 _ _ b hne⟩
            · obtain rfl := Option.some.inj ho
              have h1 := slotv (hkn 44 (by decide) : a.tmps.getD 44 undef = .pointer (some ⟨go, p * 4, none⟩))
              clear hkn ho
              simp only [OpV, execOp]
              simp [go_sem, h1]
              exact ⟨rfl, hJ2, E9.refl _ _ _⟩
            · obtain rfl := Option.some.inj ho
              have h1 := slotv (hkn 66 (by decide) : a.tmps.getD 66 undef = .pointer (some ⟨go, p * 4, none⟩))
              clear hkn ho
              simp only [OpV, execOp]
              simp [go_sem, h1]
              exact ⟨rfl, hJ2, E9.refl _ _ _⟩
          · intro u W9 hJ hφ
            have e27 : u 27 = .pointer (some ⟨go, p * 4 + 2, none⟩) := (hφ 27 (by omega)).elim (fun h => h) (fun h => by cases h.1)
            obtain ⟨z, e19, z0, z1⟩ : ∃ z : Int, u 19 = .int .i64 z ∧ -10000000 ≤ z ∧ z ≤ 10000000 := (hφ 19 (by omega)).elim (fun h => h) (fun h => by cases h.1)
            obtain ⟨hfz, ⟨y, hy⟩, hset⟩ := hJ.set hpl (j := 2) (by omega) (.int .i64 z) (fun d hd => ⟨⟨d.id, d.person, z, d.cents⟩, ⟨hd.1, hd.2.1, z0, z1, hd.2.2.2.2⟩, rfl, fun m hm hne => by have : m = 0 ∨ m = 1 ∨ m = 3 := (by omega); rcases this with rfl | rfl | rfl <;> rfl⟩)
            obtain ⟨ds', hl', hz', hm'⟩ := hset
            have HM := Lib.hid hm'
            have HZ := Lib.hid hz'
            clear hφ hJ hm' hz'
            simp only [List.take_succ_cons, List.take_zero, List.drop_succ_cons, List.drop_zero, putAll, Nat.reduceAdd]
            rw [e27, e19]
            go_wp2_with fail
            go_ret
            exact ⟨_, ds', rfl, HM.out.more (by omega), by omega, HZ.out⟩
end Go.Proofs.YtihcmifikbkbcaaGreatDoor
