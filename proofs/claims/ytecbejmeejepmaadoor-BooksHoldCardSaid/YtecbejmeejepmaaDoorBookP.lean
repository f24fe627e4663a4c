/- Books of coupons, in plain words: what stays true of the redemptions. -/
import Derived.Test.YtecbejmeejepmaaDoorCoupons
import Derived.Test.YtecbejmeejepmaaDoorMp
namespace Go.Proofs.YtecbejmeejepmaaDoor
set_option linter.unusedVariables false
open Go.RowKit

structure UseD where
  no : Int
  code : ByteArray
  person : ByteArray
  at_ : Int
  undone : Int
def fU (d : UseD) : Nat → Value
  | 0 => .int .i64 d.no
  | 1 => .string d.code
  | 2 => .string d.person
  | 3 => .int .i64 d.at_
  | _ => .int .i64 d.undone
theorem fU_one (d : UseD) (m : Nat) : (fU d m).oneCell' = true := by
  unfold fU
  split <;> rfl
def liveB (code : ByteArray) (u : UseD) : Bool := (u.code.toList == code.toList) && decide (u.undone < 0)
def ownB (code who : ByteArray) (u : UseD) : Bool := liveB code u && (u.person.toList == who.toList)
def allN (us : List UseD) (code : ByteArray) : Nat := us.countP (liveB code)
def ownN (us : List UseD) (code who : ByteArray) : Nat := us.countP (ownB code who)
theorem allN_le (us : List UseD) (code : ByteArray) : allN us code ≤ us.length := List.countP_le_length
theorem ownN_le (us : List UseD) (code who : ByteArray) : ownN us code who ≤ us.length := List.countP_le_length
theorem allN_succ (us : List UseD) (code : ByteArray) (i : Nat) (h : i < us.length) : allN (us.take (i + 1)) code = allN (us.take i) code + (if liveB code us[i] then 1 else 0) := by
  rw [List.take_succ_eq_append_getElem h]
  unfold allN
  rw [List.countP_append, List.countP_singleton]
theorem ownN_succ (us : List UseD) (code who : ByteArray) (i : Nat) (h : i < us.length) : ownN (us.take (i + 1)) code who = ownN (us.take i) code who + (if ownB code who us[i] then 1 else 0) := by
  rw [List.take_succ_eq_append_getElem h]
  unfold ownN
  rw [List.countP_append, List.countP_singleton]
theorem countP_set_le {p : UseD → Bool} (us : List UseD) (i : Nat) (hi : i < us.length) (x : UseD) (hx : p x = true → p us[i] = true) : (us.set i x).countP p ≤ us.countP p := by
  induction us generalizing i with
  | nil => simp at hi
  | cons a l ih =>
    cases i with
    | zero =>
      simp only [List.set_cons_zero, List.countP_cons, List.getElem_cons_zero] at hx ⊢
      by_cases e : p x = true
      · simp [e, hx e]
      · simp [e]
    | succ i =>
      have := ih i (by simpa using hi) (by simpa using hx)
      simp only [List.set_cons_succ, List.countP_cons]
      omega
/-- What stays true of a book. -/
def BInv (ds : List CouponD) (us : List UseD) : Prop := ∀ d ∈ ds, (allN us d.code : Int) ≤ d.most ∧ ∀ who, (ownN us d.code who : Int) ≤ d.each
theorem BInv.nil {ds : List CouponD} (h : CouponsOK ds) : BInv ds [] := by
  intro d hd
  obtain ⟨i, hi, rfl⟩ := List.getElem_of_mem hd
  have := (h.2 i hi).2.2.2
  simp [limC] at this
  refine ⟨?_, fun who => ?_⟩
  · show (0 : Int) ≤ _; omega
  · show (0 : Int) ≤ _; omega
theorem BInv.undone {ds : List CouponD} {us : List UseD} (h : BInv ds us) {i : Nat} (hi : i < us.length) {at_ : Int} (h0 : 0 ≤ at_) : BInv ds (us.set i { us[i] with undone := at_ }) := by
  intro d hd
  have h1 : allN (us.set i { us[i] with undone := at_ }) d.code ≤ allN us d.code := countP_set_le us i hi _ (fun e => by
    simp [liveB] at e
    omega)
  refine ⟨by have := (h d hd).1; omega, fun who => ?_⟩
  have h2 : ownN (us.set i { us[i] with undone := at_ }) d.code who ≤ ownN us d.code who := countP_set_le us i hi _ (fun e => by
    simp [ownB, liveB] at e
    omega)
  have := (h d hd).2 who
  omega
theorem one_code {ds : List CouponD} (h : CouponsOK ds) {d d' : CouponD} (hd : d ∈ ds) (hd' : d' ∈ ds) (e : d.code.toList = d'.code.toList) : d = d' := by
  obtain ⟨i, hi, rfl⟩ := List.getElem_of_mem hd
  obtain ⟨j, hj, rfl⟩ := List.getElem_of_mem hd'
  have key : ∀ a b (ha : a < ds.length) (hb : b < ds.length), a < b → ds[a].code.toList = ds[b].code.toList → False := by
    intro a b ha hb hab e
    have h1 := (h.2 b hb).2.1
    unfold anyF at h1
    rw [List.any_eq_false] at h1
    have h2 := h1 ds[a] (List.mem_take_iff_getElem.2 ⟨a, by omega, rfl⟩)
    unfold sameCode at h2
    rw [e] at h2
    simp at h2
  rcases Nat.lt_trichotomy i j with hij | rfl | hij
  · exact absurd e (fun e => key i j hi hj hij e)
  · rfl
  · exact absurd e (fun e => key j i hj hi hij e.symm)
theorem allN_code {us : List UseD} {k k' : ByteArray} (e : k.toList = k'.toList) : allN us k = allN us k' := by
  unfold allN liveB
  rw [e]
theorem ownN_code {us : List UseD} {k k' who : ByteArray} (e : k.toList = k'.toList) : ownN us k who = ownN us k' who := by
  unfold ownN ownB liveB
  rw [e]
theorem ownN_who {us : List UseD} {k who who' : ByteArray} (e : who.toList = who'.toList) : ownN us k who = ownN us k who' := by
  unfold ownN ownB
  rw [e]
theorem BInv.redeemed {ds : List CouponD} {us : List UseD} (h : BInv ds us) (hOK : CouponsOK ds) {d : CouponD} (hd : d ∈ ds) {code who : ByteArray} (he : d.code.toList = code.toList) (h1 : (allN us code : Int) < d.most) (h2 : (ownN us code who : Int) < d.each) (no at_ : Int) :
    BInv ds (us ++ [⟨no, code, who, at_, -1⟩]) := by
  intro d' hd'
  by_cases e : code.toList = d'.code.toList
  · have hdd : d = d' := one_code hOK hd hd' (he.trans e)
    subst hdd
    refine ⟨?_, fun who' => ?_⟩
    · have : allN (us ++ [⟨no, code, who, at_, -1⟩]) d.code = allN us d.code + (if liveB d.code ⟨no, code, who, at_, -1⟩ then 1 else 0) := by
        unfold allN; rw [List.countP_append, List.countP_singleton]
      rw [this, ← allN_code e]
      split <;> omega
    · have : ownN (us ++ [⟨no, code, who, at_, -1⟩]) d.code who' = ownN us d.code who' + (if ownB d.code who' ⟨no, code, who, at_, -1⟩ then 1 else 0) := by
        unfold ownN; rw [List.countP_append, List.countP_singleton]
      rw [this]
      have h3 := (h d hd).2 who'
      by_cases ew : who.toList = who'.toList
      · rw [← ownN_who ew, ← ownN_code e]
        split <;> omega
      · have : ownB d.code who' ⟨no, code, who, at_, -1⟩ = false := by simp [ownB, ew]
        rw [this]
        simpa using h3
  · have e1 : liveB d'.code ⟨no, code, who, at_, -1⟩ = false := by simp [liveB, e]
    refine ⟨?_, fun who' => ?_⟩
    · have : allN (us ++ [⟨no, code, who, at_, -1⟩]) d'.code = allN us d'.code := by
        unfold allN; rw [List.countP_append, List.countP_singleton, e1]; simp
      rw [this]; exact (h d' hd').1
    · have : ownN (us ++ [⟨no, code, who, at_, -1⟩]) d'.code who' = ownN us d'.code who' := by
        unfold ownN; rw [List.countP_append, List.countP_singleton]; simp [ownB, e1]
      rw [this]; exact (h d' hd').2 who'
/-- The coupons as a map of codes. -/
def codeLit (s : ByteArray) : Lit := .string s.data.toList
def coVal (d : CouponD) : Value := .agg #[.string d.code, .string d.offer, .int .i64 d.most, .int .i64 d.each, .int .i64 d.first, .int .i64 d.last]
def coMap (ds : List CouponD) : Lit → Option Value := fun l => (ds.find? fun d => l.sameKey (codeLit d.code)).map coVal
def coOf (ds : List CouponD) (code : ByteArray) : Option CouponD := ds.find? (sameCode code)
theorem sameKey_code (a b : ByteArray) : (codeLit a).sameKey (codeLit b) = (b.toList == a.toList) := by
  unfold codeLit Lit.sameKey
  rw [Bool.eq_iff_iff]
  simp only [beq_iff_eq]
  constructor
  · intro h; rw [show a = b from bytes_ext h]
  · intro h
    rw [ByteArray.toList_eq, ByteArray.toList_eq] at h
    exact h.symm
theorem coMap_at (ds : List CouponD) (code : ByteArray) : coMap ds (codeLit code) = (coOf ds code).map coVal := by
  unfold coMap coOf
  congr 1
  congr 1
  funext d
  rw [sameKey_code]; rfl
theorem coMap_snoc (ds : List CouponD) (d : CouponD) (h : coOf ds d.code = none) : mpSet (coMap ds) (codeLit d.code) (coVal d) = coMap (ds ++ [d]) := by
  funext l
  unfold mpSet
  by_cases e : l.sameKey (codeLit d.code) = true
  · have e2 := WideAt.sameKey_eq e
    subst e2
    rw [if_pos e, coMap_at]
    unfold coOf at h ⊢
    rw [List.find?_append, h]
    have : sameCode d.code d = true := by simp [sameCode]
    simp [this]
  · rw [if_neg e]
    unfold coMap
    rw [List.find?_append]
    have e' : l.sameKey (codeLit d.code) = false := by simpa using e
    simp [e']
theorem coMap_nil : coMap [] = mpNew := rfl
theorem coOf_mem {ds : List CouponD} {code : ByteArray} {d : CouponD} (h : coOf ds code = some d) : d ∈ ds ∧ d.code.toList = code.toList := by
  refine ⟨List.mem_of_find?_eq_some h, ?_⟩
  have := List.find?_some h
  simpa [sameCode] using this
theorem coOf_none {ds : List CouponD} {code : ByteArray} : coOf ds code = none ↔ anyF (sameCode code) ds = false := by
  unfold coOf anyF
  rw [List.find?_eq_none, List.any_eq_false]
/-- What check says. -/
def CkOK (ds : List CouponD) (code who : ByteArray) (at_ : Int) (d : CouponD) : Prop := codeErr code = 0 ∧ coOf ds code = some d ∧ isKey who = true ∧ 0 ≤ at_ ∧ at_ ≤ 4321439
theorem CkOK.one {ds : List CouponD} {code who : ByteArray} {at_ : Int} {d d' : CouponD} (h : CkOK ds code who at_ d) (h' : CkOK ds code who at_ d') : d = d' := Option.some.inj (h.2.1.symm.trans h'.2.1)
def canR (us : List UseD) (d : CouponD) (code who : ByteArray) (at_ : Int) : Prop := d.first ≤ at_ ∧ at_ < d.last ∧ (allN us code : Int) < d.most ∧ (ownN us code who : Int) < d.each
end Go.Proofs.YtecbejmeejepmaaDoor
