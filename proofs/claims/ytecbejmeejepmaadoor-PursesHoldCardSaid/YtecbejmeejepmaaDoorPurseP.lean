/- Purses: what stays true of the holds; a new purse. -/
import Derived.Test.YtecbejmeejepmaaDoorPurse6
namespace Go.Proofs.YtecbejmeejepmaaDoor
set_option linter.unusedVariables false
open Go.RowKit

def tkV (key : ByteArray) (n : Int) (h : HoldD) : Int := if tkB key n h then h.cents else 0
theorem takenN_cons (a : HoldD) (l : List HoldD) (key : ByteArray) (n : Int) : takenN (a :: l) key n = tkV key n a + takenN l key n := by
  unfold takenN tkV
  by_cases e : tkB key n a = true <;> simp [e]
theorem takenN_snoc (l : List HoldD) (a : HoldD) (key : ByteArray) (n : Int) : takenN (l ++ [a]) key n = takenN l key n + tkV key n a := by
  unfold takenN tkV
  by_cases e : tkB key n a = true <;> simp [e]
theorem takenN_set (l : List HoldD) (i : Nat) (hi : i < l.length) (a : HoldD) (key : ByteArray) (n : Int) : takenN (l.set i a) key n + tkV key n l[i] = takenN l key n + tkV key n a := by
  induction l generalizing i with
  | nil => simp at hi
  | cons b l ih =>
    cases i with
    | zero => simp [takenN_cons]; omega
    | succ i =>
      have := ih i (by simpa using hi)
      simp [takenN_cons]; omega
theorem stN_later {h : HoldD} {n m : Int} (hnm : n ≤ m) (hs : stN h m = 1 ∨ stN h m = 2) : stN h n = stN h m := by
  unfold stN at hs ⊢
  by_cases h1 : h.state = 1 ∧ h.until_ ≤ m
  · rw [if_pos h1] at hs; omega
  · rw [if_neg h1]
    rw [if_neg (fun c => h1 ⟨c.1, by have := c.2; omega⟩)]
theorem tkV_later {h : HoldD} {key : ByteArray} {n m : Int} (hnm : n ≤ m) (hc : 0 ≤ h.cents) : tkV key m h ≤ tkV key n h := by
  unfold tkV
  by_cases e : tkB key m h = true
  · have e2 : tkB key n h = true := by
      unfold tkB at e ⊢
      simp only [Bool.and_eq_true, Bool.or_eq_true, beq_iff_eq] at e ⊢
      rw [stN_later hnm e.2]
      exact e
    rw [if_pos e, if_pos e2]; omega
  · rw [if_neg e]; split <;> omega
theorem takenN_later {hs : List HoldD} {key : ByteArray} {n m : Int} (hnm : n ≤ m) (hc : ∀ h ∈ hs, 0 ≤ h.cents ∧ h.cents ≤ 1000000000000) : takenN hs key m ≤ takenN hs key n := by
  induction hs with
  | nil => simp [takenN]
  | cons a l ih =>
    rw [takenN_cons, takenN_cons]
    have := ih (fun h hm => hc h (List.mem_cons_of_mem _ hm))
    have := tkV_later (key := key) hnm (hc a (List.mem_cons_self ..)).1
    omega
/-- What stays true of a purse. -/
structure PInv (ds : List BudgetD) (hs : List HoldD) (now : Int) : Prop where
  cb : ∀ h ∈ hs, 0 ≤ h.cents ∧ h.cents ≤ 1000000000000
  tk : ∀ d ∈ ds, takenN hs d.key now ≤ d.cents
theorem PInv.nil {ds : List BudgetD} (h : BudgetsOK ds) : PInv ds [] 0 := by
  refine ⟨fun h hm => (by cases hm), fun d hd => ?_⟩
  obtain ⟨i, hi, rfl⟩ := List.getElem_of_mem hd
  have := (h.2 i hi).2.2
  simp [limB] at this
  show (0 : Int) ≤ _
  exact this.1.1.1.1
theorem PInv.turned {ds : List BudgetD} {hs : List HoldD} {now at_ to : Int} {m : Int → Bool} (h : PInv ds hs now) (hn : now ≤ at_) {i : Nat} (hi : i < hs.length) (hm : m (stN hs[i] at_) = true) (hto : (to = 2 ∧ ∀ s, m s = true → s = 1) ∨ to = 3) : PInv ds (hs.set i { hs[i] with state := to }) at_ := by
  refine ⟨fun x hx => ?_, fun d hd => ?_⟩
  · rcases List.mem_or_eq_of_mem_set hx with hx | hx
    · exact h.cb x hx
    · rw [hx]; exact h.cb hs[i] (List.getElem_mem hi)
  · have h1 := takenN_set hs i hi { hs[i] with state := to } d.key at_
    have h2 := takenN_later (key := d.key) hn h.cb
    have h3 := h.tk d hd
    have hc := (h.cb _ (List.getElem_mem hi)).1
    have h4 : tkV d.key at_ { hs[i] with state := to } ≤ tkV d.key at_ hs[i] := by
      rcases hto with ⟨rfl, hm1⟩ | rfl
      · have e1 : stN hs[i] at_ = 1 := hm1 _ hm
        have e2 : stN { hs[i] with state := 2 } at_ = 2 := by simp [stN]
        unfold tkV tkB
        rw [e1, e2]
        simp
      · have e2 : stN { hs[i] with state := 3 } at_ = 3 := by simp [stN]
        unfold tkV tkB
        rw [e2]
        simp
        split <;> omega
    omega
theorem one_key {ds : List BudgetD} (h : BudgetsOK ds) {d d' : BudgetD} (hd : d ∈ ds) (hd' : d' ∈ ds) (e : d.key.toList = d'.key.toList) : d = d' := by
  obtain ⟨i, hi, rfl⟩ := List.getElem_of_mem hd
  obtain ⟨j, hj, rfl⟩ := List.getElem_of_mem hd'
  have key : ∀ a b (ha : a < ds.length) (hb : b < ds.length), a < b → ds[a].key.toList = ds[b].key.toList → False := by
    intro a b ha hb hab e
    have h1 := (h.2 b hb).2.1
    unfold anyF at h1
    rw [List.any_eq_false] at h1
    have h2 := h1 ds[a] (List.mem_take_iff_getElem.2 ⟨a, by omega, rfl⟩)
    unfold sameKey at h2
    rw [e] at h2
    simp at h2
  rcases Nat.lt_trichotomy i j with hij | rfl | hij
  · exact absurd e (fun e => key i j hi hj hij e)
  · rfl
  · exact absurd e (fun e => key j i hj hi hij e.symm)
theorem takenN_key {hs : List HoldD} {k k' : ByteArray} (e : k.toList = k'.toList) (n : Int) : takenN hs k n = takenN hs k' n := by
  unfold takenN tkB
  rw [e]
theorem PInv.reserved {ds : List BudgetD} {hs : List HoldD} {now at_ cents until_ no : Int} {key : ByteArray} (h : PInv ds hs now) (hOK : BudgetsOK ds) (hn : now ≤ at_) (h0 : 0 ≤ at_) (c1 : 0 ≤ cents) (c2 : cents ≤ 1000000000000) (hu : at_ < until_) {d : BudgetD} (hd : d ∈ ds) (hk : sameKey key d = true) (ht : takenN hs key at_ + cents ≤ pacedN d at_) :
    PInv ds (hs ++ [⟨no, key, cents, at_, until_, 1⟩]) at_ := by
  refine ⟨fun x hx => ?_, fun d' hd' => ?_⟩
  · rcases List.mem_append.1 hx with hx | hx
    · exact h.cb x hx
    · simp at hx; rw [hx]; exact ⟨c1, c2⟩
  · rw [takenN_snoc]
    have hlim : limB d = true := by
      obtain ⟨i, hi, rfl⟩ := List.getElem_of_mem hd
      exact (hOK.2 i hi).2.2
    have hp := pacedN_bd d at_ hlim h0
    by_cases e : key.toList = d'.key.toList
    · have hdd : d = d' := one_key hOK hd hd' (by have := hk; unfold sameKey at this; rw [← e]; simpa using this)
      subst hdd
      rw [← takenN_key e]
      have : tkV d.key at_ ⟨no, key, cents, at_, until_, 1⟩ ≤ cents := by
        unfold tkV
        split
        · show cents ≤ cents; omega
        · omega
      omega
    · have : tkV d'.key at_ ⟨no, key, cents, at_, until_, 1⟩ = 0 := by
        unfold tkV tkB
        simp [e]
      have h2 := takenN_later (key := d'.key) hn h.cb
      have h3 := h.tk d' hd'
      omega
/-- The cents of a key in a state. -/
def stV (key : ByteArray) (s : Int) (h : HoldD) : Int := if (h.key.toList == key.toList) && (h.state == s) then h.cents else 0
def stSum (key : ByteArray) (s : Int) (xs : List HoldD) : Int := (xs.map (stV key s)).sum
theorem stSum_succ (xs : List HoldD) (key : ByteArray) (s : Int) (i : Nat) (h : i < xs.length) : stSum key s (xs.take (i + 1)) = stSum key s (xs.take i) + stV key s xs[i] := by
  rw [List.take_succ_eq_append_getElem h]
  unfold stSum
  rw [List.map_append, List.sum_append]
  simp
theorem stSum_bd (xs : List HoldD) (key : ByteArray) (s : Int) (hc : ∀ h ∈ xs, 0 ≤ h.cents ∧ h.cents ≤ 1000000000000) : 0 ≤ stSum key s xs ∧ stSum key s xs ≤ xs.length * 1000000000000 := by
  induction xs with
  | nil => simp [stSum]
  | cons a l ih =>
    have h1 := ih (fun h hm => hc h (List.mem_cons_of_mem _ hm))
    have h2 := hc a (List.mem_cons_self ..)
    have h3 : 0 ≤ stV key s a ∧ stV key s a ≤ 1000000000000 := by
      unfold stV
      split
      · exact h2
      · omega
    unfold stSum at h1 ⊢
    simp only [List.map_cons, List.sum_cons, List.length_cons]
    omega
theorem stSum_all (hs : List HoldD) (key : ByteArray) (now : Int) : stSum key 1 (hs.map (stH now)) + stSum key 2 (hs.map (stH now)) = takenN hs key now := by
  induction hs with
  | nil => simp [stSum, takenN]
  | cons a l ih =>
    rw [takenN_cons, ← ih]
    have : stV key 1 (stH now a) + stV key 2 (stH now a) = tkV key now a := by
      unfold stV tkV tkB stH
      by_cases e : (a.key.toList == key.toList) = true
      · by_cases e1 : stN a now = 1
        · simp [e, e1]
        · by_cases e2 : stN a now = 2 <;> simp [e, e1, e2]
      · simp at e
        simp [e]
    simp only [stSum, List.map_cons, List.sum_cons]
    omega
theorem stH_cb {hs : List HoldD} {now : Int} (hc : ∀ h ∈ hs, 0 ≤ h.cents ∧ h.cents ≤ 1000000000000) : ∀ h ∈ hs.map (stH now), 0 ≤ h.cents ∧ h.cents ≤ 1000000000000 := by
  intro h hm
  obtain ⟨x, hx, rfl⟩ := List.mem_map.1 hm
  exact hc x hx
/-- What NewPurse leaves. -/
def NPPost (H : Frz) (ds : List BudgetD) (W : World) (e : Ending) (W' : World) : Prop :=
  Below W.heap.size W W' ∧ ((∃ n : Int, n ≠ 0 ∧ e = .returned (.tuple #[.pointer none, .int .i64 n]) ∧ ¬ BudgetsOK ds) ∨
    (BudgetsOK ds ∧ ∃ g H1, e = .returned (.tuple #[.pointer (some ⟨g, 0, none⟩), .int .i64 0]) ∧ W.heap.size ≤ g ∧ H.Le H1 ∧ (∀ b, b < W.heap.size → H1 b = H b) ∧ PS H1 W' g ds [] 0))
theorem fB_one (d : BudgetD) (m : Nat) : (fB d m).oneCell' = true := by
  unfold fB
  split <;> rfl
set_option maxHeartbeats 4000000 in
theorem newPurse_any (H : Frz) (A : Option Addr) (cap : Nat) (ds : List BudgetD) (W : World) (hH : H.In W) (hR : Rw H A 5 fB ds) (hsz : ∀ d ∈ ds, d.key.size ≤ 1000000) (hl : ds.length ≤ 1000000) (hcap : ds.length ≤ cap) :
    Calls Tryd.prog 20 #[.slice A ds.length cap] W (NPPost H ds W) := by
  have HR := Lib.hid hR
  have HH := Lib.hid hH
  have HS := Lib.hid hsz
  clear hR hH hsz
  go_enter Tryd.func20, Tryd.ntmps20
  go_wp2_with fail
  refine (checkBudgets_any H A cap ds W HH.out HR.out HS.out hl hcap).mono ?_
  rintro e W1 ⟨n, rfl, hn, hb1⟩
  by_cases h0 : n = 0
  · subst h0
    have HOK := Lib.hid (hn.1 rfl)
    have HB1 := Lib.hid hb1
    clear hn hb1
    go_wp2_with fail
    refine (clone_Budget H fB ds (fun d _ m => fB_one d m) A cap W1 (HH.out.below HB1.out) HR.out hl).mono ?_
    rintro e W2 ⟨⟨v, rfl, hO⟩, hb2⟩
    obtain ⟨A1, cap1, rfl, hcap1⟩ := hO.slice
    have hB2 := HB1.out.trans (hb2.mono HB1.out.size)
    obtain ⟨A2, cap2, H1, hv, hc2, q1, q2, hR1, q3, q4⟩ := hO.freeze H
    simp only [Value.slice.injEq] at hv
    obtain ⟨rfl, _, rfl⟩ := hv
    have hle := q2 (fun g hg => (HH.out.below HB1.out).none_ (hO.lt hg).1)
    have hin2 : H1.In W2 := q1 ((HH.out.below HB1.out).below hb2)
    have HF : Hid (NPPost H ds W (.returned (.tuple #[.pointer (some ⟨W2.heap.size, 0, none⟩), .int .i64 0])) (W2.alloc (.cells #[.slice A1 ds.length cap1, .slice none 0 0, .int .i64 0] 86))) :=
      ⟨hB2.alloc hB2.size _, Or.inr ⟨HOK.out, W2.heap.size, H1, rfl, hB2.size, hle, fun b hb => q3 b (Nat.lt_of_lt_of_le hb HB1.out.size), ⟨⟨A1, cap1, _, heap_at rfl, hR1, hc2, Orow.nil _ _ _ _ _⟩, hl, by simp, fun b o e => hin2.lt e, hin2.alloc _⟩⟩⟩
    clear hO hb2 hB2 q1 q2 hR1 q3 q4 hle hin2
    go_wp2_with fail
    go_ret2
    exact HF.out
  · have hne : (n != 0) = true := by simpa using h0
    have HF : Hid (NPPost H ds W (.returned (.tuple #[.pointer none, .int .i64 n])) W1) := ⟨hb1, Or.inl ⟨n, h0, rfl, fun c => h0 (hn.2 c)⟩⟩
    clear hn hb1 h0
    go_wp2_with fail
    go_ret2
    exact HF.out
end Go.Proofs.YtecbejmeejepmaaDoor
