/- Steps: what is so at the heads of its loops. -/
import Derived.Test.YtecbejmeejepmaaCheckSent
import Derived.Test.YtecbejmeejepmaaCount
import Derived.Test.YtecbejmeejepmaaIter
namespace Go.Proofs.Ytecbejmeejepmaa
set_option linter.unusedVariables false
open Go.RowKit

theorem sentErr_dup {s : SentD} {dup late : Bool} (h : sentErr s dup late = 0) : dup = false := by
  cases dup with
  | false => rfl
  | true =>
    unfold sentErr at h
    split at h
    · omega
    · simp at h
theorem sent_nodup {ss : List SentD} {i : Nat} (hi : i < ss.length) (h : sentAt ss i = 0) : (ss.take i).any (sameId ss[i].id) = false := by
  rw [sentAt_eq hi] at h
  exact sentErr_dup h
/-- The first loop. -/
structure AtI (ss : List SentD) (W : World) (i : Nat) (wr : World) : Prop where
  bel : Below W.heap.size W wr
  map : Mp Try.prog 9 wr W.heap.size i (atMp (ss.take i))
theorem AtI.new (ss : List SentD) (W : World) : AtI ss W 0 (W.alloc (.map #[] 0)) :=
  ⟨(Below.refl W.heap.size W).alloc (Nat.le_refl _) _, Mp.made Try.prog 9 W⟩
theorem AtI.call {ss : List SentD} {W wr w' : World} {i : Nat} (h : AtI ss W i wr) (hb : Below wr.heap.size wr w') : AtI ss W i w' :=
  ⟨h.bel.trans (hb.mono h.bel.size), h.map.below hb⟩
theorem AtI.put {ss : List SentD} {W wr w' : World} {i : Nat} (h : AtI ss W i wr) (hi : i < ss.length) (hat : sentAt ss i = 0) (hM : Mp Try.prog 9 w' W.heap.size (i + 1) (mpSet (atMp (ss.take i)) (codeLit ss[i].id) (.int .i64 i))) (hg : wr.grownBy w' (some W.heap.size)) : AtI ss W (i + 1) w' := by
  refine ⟨h.bel.grown hg h.bel.size (fun k hk => by injection hk with hk; omega), ?_⟩
  have e := atMp_snoc (ss.take i) ss[i] (sent_nodup hi hat)
  rw [List.length_take, Nat.min_eq_left (Nat.le_of_lt hi)] at e
  rw [e] at hM
  rw [List.take_succ_eq_append_getElem hi]
  exact hM
/-- Who did what, as rows of five. -/
def fD (d : Nat → Bool) (j : Nat) : Value := .bool (d j)
def didL (ss : List SentD) (ac : List ActD) (span : Int) : List (Nat → Bool) := (List.range ss.length).map (fun i => didB ss ac span i)
theorem didL_len (ss : List SentD) (ac : List ActD) (span : Int) : (didL ss ac span).length = ss.length := by simp [didL]
theorem didL_at (ss : List SentD) (ac : List ActD) (span : Int) (i : Nat) (h : i < (didL ss ac span).length) : (didL ss ac span)[i] = didB ss ac span i := by simp [didL]
theorem didB_succ (ss : List SentD) (ac : List ActD) (span : Int) (k : Nat) (hk : k < ac.length) (i j : Nat) : didB ss (ac.take (k + 1)) span i j = (didB ss (ac.take k) span i j || ((idIx ss ac[k].sent == some i) && (ac[k].kind == (j : Int)) && decide (ac[k].at_ - atOf ss i ≤ span))) := by
  unfold didB
  rw [List.take_succ_eq_append_getElem hk, List.any_append]
  simp
theorem didL_no (ss : List SentD) (ac : List ActD) (span : Int) (k : Nat) (hk : k < ac.length) {i0 : Nat} (hi : idIx ss ac[k].sent = some i0) (hs : ¬ ac[k].at_ - atOf ss i0 ≤ span) : didL ss (ac.take (k + 1)) span = didL ss (ac.take k) span := by
  unfold didL
  apply List.map_congr_left
  intro i _
  funext j
  rw [didB_succ ss ac span k hk, hi]
  by_cases e : i0 = i
  · subst e; simp [hs]
  · simp [e]
theorem didL_yes (ss : List SentD) (ac : List ActD) (span : Int) (k : Nat) (hk : k < ac.length) {i0 : Nat} (hi : idIx ss ac[k].sent = some i0) (hs : ac[k].at_ - atOf ss i0 ≤ span) {kd : Nat} (hkd : ac[k].kind = kd) (h0 : i0 < (didL ss (ac.take k) span).length) :
    didL ss (ac.take (k + 1)) span = (didL ss (ac.take k) span).set i0 (fun j => (didL ss (ac.take k) span)[i0] j || decide (j = kd)) := by
  apply List.ext_getElem
  · simp [didL_len]
  · intro i h1 h2
    rw [didL_at, List.getElem_set]
    by_cases e : i0 = i
    · subst e
      rw [if_pos rfl]
      funext j
      rw [didB_succ ss ac span k hk, hi, didL_at, hkd]
      by_cases ej : j = kd
      · subst ej; simp [hs]
      · have : ((kd : Int) == (j : Int)) = false := by simp; omega
        simp [this, ej]
    · rw [if_neg e, didL_at]
      funext j
      rw [didB_succ ss ac span k hk, hi]
      simp [e]
/-- The rows' blocks as a map of letters. -/
def ptrMp (ps : List (List UInt8 × Nat)) : Lit → Option Value := fun l => (ps.find? (fun p => l.sameKey (.string p.1))).map (fun p => .pointer (some ⟨p.2, 0, none⟩))
theorem sameKey_str (a b : List UInt8) : (Lit.string a).sameKey (.string b) = (b == a) := by
  unfold Lit.sameKey
  rw [Bool.eq_iff_iff]
  simp only [beq_iff_eq]
  exact ⟨fun h => h.symm, fun h => h.symm⟩
theorem ptrMp_none {ps : List (List UInt8 × Nat)} {k : List UInt8} (h : ¬ k ∈ ps.map (·.1)) : ptrMp ps (.string k) = none := by
  unfold ptrMp
  rw [Option.map_eq_none_iff, List.find?_eq_none]
  intro p hp
  rw [sameKey_str]
  simp only [beq_iff_eq]
  intro e
  exact h (List.mem_map.2 ⟨p, hp, e⟩)
theorem ptrMp_some {ps : List (List UInt8 × Nat)} (hnd : (ps.map (·.1)).Nodup) {p : List UInt8 × Nat} (hp : p ∈ ps) : ptrMp ps (.string p.1) = some (.pointer (some ⟨p.2, 0, none⟩)) := by
  unfold ptrMp
  have : ps.find? (fun q => (Lit.string p.1).sameKey (.string q.1)) = some p := by
    induction ps with
    | nil => cases hp
    | cons q l ih =>
      rw [List.find?_cons]
      by_cases e : q.1 = p.1
      · have : q = p := by
          rcases List.mem_cons.1 hp with rfl | hm
          · rfl
          · rw [List.map_cons, List.nodup_cons] at hnd
            exact absurd (List.mem_map.2 ⟨p, hm, e.symm⟩) hnd.1
        rw [sameKey_str]
        simp [this]
      · rw [sameKey_str]
        simp only [show (q.1 == p.1) = false from by simpa using e]
        rw [List.map_cons, List.nodup_cons] at hnd
        rcases List.mem_cons.1 hp with rfl | hm
        · exact absurd rfl e
        · exact ih hnd.2 hm
  rw [this]; rfl
theorem ptrMp_snoc {ps : List (List UInt8 × Nat)} {k : List UInt8} {g : Nat} (h : ¬ k ∈ ps.map (·.1)) : mpSet (ptrMp ps) (.string k) (.pointer (some ⟨g, 0, none⟩)) = ptrMp (ps ++ [(k, g)]) := by
  funext l
  unfold mpSet
  by_cases e : l.sameKey (.string k) = true
  · have e2 := WideAt.sameKey_eq e
    subst e2
    rw [if_pos e]
    have h2 := ptrMp_none h
    unfold ptrMp at h2 ⊢
    rw [List.find?_append]
    rw [Option.map_eq_none_iff] at h2
    rw [h2]
    simp [e]
  · rw [if_neg e]
    have e' : l.sameKey (.string k) = false := by simpa using e
    unfold ptrMp
    rw [List.find?_append]
    simp [e']
theorem ptrMp_nil : ptrMp [] = mpNew := rfl
theorem lets_succ_old {ss : List SentD} {i : Nat} (hi : i < ss.length) (h : ss[i].letter.data.toList ∈ lets ss i) : lets ss (i + 1) = lets ss i := by
  rw [lets, List.getElem?_eq_getElem hi]
  simp only
  rw [if_pos (by simpa using h)]
theorem lets_succ_new {ss : List SentD} {i : Nat} (hi : i < ss.length) (h : ¬ ss[i].letter.data.toList ∈ lets ss i) : lets ss (i + 1) = lets ss i ++ [ss[i].letter.data.toList] := by
  rw [lets, List.getElem?_eq_getElem hi]
  simp only
  rw [if_neg (by simpa using h)]
theorem letB_at {ss : List SentD} {i : Nat} (hi : i < ss.length) (k : List UInt8) : letB ss k i = (ss[i].letter.data.toList == k) := by
  unfold letB
  rw [List.getElem?_eq_getElem hi]
/-- The fourth loop. -/
structure RI (ss : List SentD) (d : Nat → Nat → Bool) (W : World) (i : Nat) (ps : List (List UInt8 × Nat)) (wr : World) : Prop where
  bel : Below W.heap.size W wr
  map : Mp Try.prog 9 wr W.heap.size i (ptrMp ps)
  fst : ps.map (·.1) = lets ss i
  blk : ∀ p ∈ ps, W.heap.size < p.2 ∧ wr.heap[p.2]? = some (.cells (rowCells (rowN ss d p.1 i)) 36 (0, 0))
  nd : (ps.map (·.2)).Nodup
section
variable {ss : List SentD} {d : Nat → Nat → Bool} {W wr w' : World} {i : Nat} {ps : List (List UInt8 × Nat)}
theorem RI.new (ss : List SentD) (d : Nat → Nat → Bool) (W : World) : RI ss d W 0 [] (W.alloc (.map #[] 0)) :=
  ⟨(Below.refl W.heap.size W).alloc (Nat.le_refl _) _, Mp.made Try.prog 9 W, rfl, (fun p hp => by cases hp), List.nodup_nil⟩
theorem RI.call (h : RI ss d W i ps wr) (hb : Below wr.heap.size wr w') : RI ss d W i ps w' :=
  ⟨h.bel.trans (hb.mono h.bel.size), h.map.below hb, h.fst, fun p hp => ⟨(h.blk p hp).1, (hb.block _ (lt_of_heap (h.blk p hp).2)).trans (h.blk p hp).2⟩, h.nd⟩
theorem RI.alloc (h : RI ss d W i ps wr) (o : Obj) : RI ss d W i ps (wr.alloc o) := h.call ((Below.refl _ _).alloc (Nat.le_refl _) _)
theorem RI.nodup (h : RI ss d W i ps wr) : (ps.map (·.1)).Nodup := by rw [h.fst]; exact lets_nodup ss i
theorem nd_inj {α β : Type} {f : α → β} {l : List α} (h : (l.map f).Nodup) {p q : α} (hp : p ∈ l) (hq : q ∈ l) (e : f p = f q) : p = q := by
  induction l with
  | nil => cases hp
  | cons x l ih =>
    rw [List.map_cons, List.nodup_cons] at h
    rcases List.mem_cons.1 hp with hpx | hp
    · rcases List.mem_cons.1 hq with hqx | hq
      · rw [hpx, hqx]
      · exact absurd (List.mem_map.2 ⟨q, hq, by rw [← e, hpx]⟩) h.1
    · rcases List.mem_cons.1 hq with hqx | hq
      · exact absurd (List.mem_map.2 ⟨p, hp, by rw [e, hqx]⟩) h.1
      · exact ih h.2 hp hq
/-- A letter more, of a kind that was there. -/
theorem RI.old (h : RI ss d W i ps wr) (hi : i < ss.length) {p : List UInt8 × Nat} (hp : p ∈ ps) (hk : ss[i].letter.data.toList = p.1) (hg : wr.grownBy w' (some p.2)) (hr : w'.heap[p.2]? = some (.cells (rowCells (stepRow (rowN ss d p.1 i) (d i 1) (d i 2) (d i 3) (d i 4))) 36 (0, 0))) : RI ss d W (i + 1) ps w' := by
  have hlt := (h.blk p hp).1
  refine ⟨h.bel.grown hg h.bel.size (fun q hq => by injection hq with hq; omega), (h.map.kept hg (fun e => by injection e; omega)).mono (by omega), ?_, ?_, h.nd⟩
  · rw [h.fst, lets_succ_old hi]
    rw [hk, ← h.fst]
    exact List.mem_map.2 ⟨p, hp, rfl⟩
  · intro q hq
    refine ⟨(h.blk q hq).1, ?_⟩
    by_cases e : q = p
    · subst e
      rw [rowN_yes (by rw [letB_at hi]; simpa using hk)]
      exact hr
    · have hne : q.1 ≠ p.1 := fun c => e (nd_inj h.nodup hq hp c)
      rw [rowN_no (by rw [letB_at hi, hk]; simpa using fun c => hne c.symm)]
      refine (hg.block q.2 (lt_of_heap (h.blk q hq).2) (fun c => ?_)).trans (h.blk q hq).2
      injection c with c
      exact e (nd_inj h.nd hq hp c)
/-- A letter of a new kind. -/
theorem RI.fresh (h : RI ss d W i ps wr) (hi : i < ss.length) {k : List UInt8} (hk : ss[i].letter.data.toList = k) (hno : ¬ k ∈ lets ss i) {g : Nat} (hgW : W.heap.size < g) (hgn : ∀ p ∈ ps, p.2 ≠ g) {w2 w3 : World}
    (hM : Mp Try.prog 9 w2 W.heap.size (i + 1) (mpSet (ptrMp ps) (.string k) (.pointer (some ⟨g, 0, none⟩)))) (hg2 : wr.grownBy w2 (some W.heap.size)) (hg3 : w2.grownBy w3 (some g))
    (hr : w3.heap[g]? = some (.cells (rowCells (stepRow (rowN ss d k i) (d i 1) (d i 2) (d i 3) (d i 4))) 36 (0, 0))) : RI ss d W (i + 1) (ps ++ [(k, g)]) w3 := by
  have hno' : ¬ k ∈ ps.map (·.1) := by rw [h.fst]; exact hno
  have hb2 : Below W.heap.size W w2 := h.bel.grown hg2 h.bel.size (fun q hq => by injection hq with hq; omega)
  refine ⟨hb2.grown hg3 hb2.size (fun q hq => by injection hq with hq; omega), ?_, ?_, ?_, ?_⟩
  · rw [ptrMp_snoc hno'] at hM
    exact hM.kept hg3 (fun e => by injection e; omega)
  · rw [List.map_append, h.fst, lets_succ_new hi (by rw [hk]; exact hno), hk]
    rfl
  · intro q hq
    rcases List.mem_append.1 hq with hq | hq
    · refine ⟨(h.blk q hq).1, ?_⟩
      have hne : q.1 ≠ k := fun c => hno' (List.mem_map.2 ⟨q, hq, c⟩)
      rw [rowN_no (by rw [letB_at hi, hk]; simpa using fun c => hne c.symm)]
      have h1 := lt_of_heap (h.blk q hq).2
      have e2 := hg2.block q.2 h1 (fun c => by injection c with c; have := (h.blk q hq).1; omega)
      have e3 := hg3.block q.2 (Nat.lt_of_lt_of_le h1 hg2.size) (fun c => by injection c with c; exact hgn q hq c)
      rw [e3, e2]
      exact (h.blk q hq).2
    · simp only [List.mem_singleton] at hq
      subst hq
      refine ⟨hgW, ?_⟩
      rw [rowN_yes (by rw [letB_at hi]; simpa using hk)]
      exact hr
  · rw [List.map_append, List.nodup_append]
    refine ⟨h.nd, by simp, ?_⟩
    intro a ha b hb
    simp at hb
    obtain ⟨q, hq, rfl⟩ := List.mem_map.1 ha
    rw [hb]
    exact hgn q hq
end
/-- The slice of rows of five that make has made. -/
theorem made5 (n : Nat) : (madeCells #[.bool false, .bool false, .bool false, .bool false, .bool false] (n * 5)).toList = List.replicate (n * 5) (Value.bool false) := by
  apply List.ext_getElem
  · simp [madeCells]
  · intro i h1 h2
    simp only [madeCells, Array.getElem_toList, Array.getElem_map, Array.getElem_range, List.getElem_replicate]
    have h5 : i % 5 < 5 := Nat.mod_lt _ (by omega)
    have hc : i % 5 = 0 ∨ i % 5 = 1 ∨ i % 5 = 2 ∨ i % 5 = 3 ∨ i % 5 = 4 := by omega
    show (#[Value.bool false, .bool false, .bool false, .bool false, .bool false] : Array Value)[i % 5]! = _
    rcases hc with h | h | h | h | h <;> rw [h] <;> rfl
theorem did0 (ss : List SentD) (span : Int) : cellsOf 5 fD (didL ss [] span) = List.replicate (ss.length * 5) (Value.bool false) := by
  have : didL ss [] span = List.replicate ss.length (fun _ => false) := by
    apply List.ext_getElem
    · simp [didL]
    · intro i h1 h2
      rw [didL_at]
      simp
      rfl
  rw [this]
  generalize ss.length = n
  induction n with
  | zero => rfl
  | succ n ih =>
    rw [List.replicate_succ]
    have e : cellsOf 5 fD ((fun _ => false) :: List.replicate n (fun _ => false)) = List.replicate 5 (Value.bool false) ++ cellsOf 5 fD (List.replicate n (fun _ => false)) := by
      simp [cellsOf]
      rfl
    rw [e, ih, List.replicate_append_replicate]
    congr 1
    omega
/-- Keys, sorted. -/
def fK (d : List UInt8) (_ : Nat) : Value := .string ⟨d.toArray⟩
theorem cellsOf_fK (ds : List (List UInt8)) : cellsOf 1 fK ds = ds.map encStr := by
  induction ds with
  | nil => rfl
  | cons a l ih =>
    have : cellsOf 1 fK (a :: l) = [fK a 0] ++ cellsOf 1 fK l := by simp [cellsOf]
    rw [this, ih]
    rfl
theorem keys_any (mb : Option Nat) (W : World) : Calls Try.prog 21 #[.map mb] W fun e w' => e = .returned (.func (.func 26) #[] #[.pointer (some ⟨W.heap.size, 0, none⟩)]) ∧ w' = W.alloc (.cells #[.map mb] 54) :=
  callsIn_wide.1 (Try.maps_Keys_21 mb W)
theorem sorted_any (b nn : Nat) (m : Lit → Option Value) (w : World) (hM : Mp Try.prog 9 w b nn m) (hn : nn ≤ 1000000) (ks : List (List UInt8)) (hnd : ks.Nodup) (hk : ∀ x, x ∈ ks ↔ (m (.string x)).isSome = true) :
    Calls Try.prog 20 #[.func (.func 26) #[] #[.pointer (some ⟨w.heap.size, 0, none⟩)]] (w.alloc (.cells #[.map (some b)] 54)) fun e w' =>
      (∃ v, e = .returned v ∧ Orow w' (w.heap.size + 1) 9 1 fK v (ks.mergeSort leB)) ∧ Below w.heap.size w w' := by
  obtain ⟨D, ho, hd⟩ := hM
  have hsz := ho.size_le
  refine callsIn_wide.1 ((Try.slices_Sorted_keys_20_21 b nn D heldR w ho (by unfold maxLen; omega) (by omega)).mono ?_)
  rintro e w' ⟨v, ss, rfl, hp, hrow, _, hb⟩
  have hkeys : ks.Perm (strKeys D) := by
    obtain ⟨es, rfl, hes⟩ := ho.keysOf
    have ht := ho.tidy strKeyed
    obtain ⟨es', he, hpw⟩ := ht
    injection he with he
    subst he
    refine perm_strKeys hpw (fun p hp => ?_) hnd (fun x => ?_)
    · obtain ⟨v, hv⟩ := hes p hp
      obtain ⟨x, _, h2, _⟩ := Maps.keyOf_str Try.underlying9 hv
      exact ⟨x, h2⟩
    · rw [hk x, (hd (.string x) trivial).1]
  have hs : (w.alloc (.cells #[.map (some b)] 54)).heap.size = w.heap.size + 1 := by simp
  have heq : ss.mergeSort leB = ks.mergeSort leB := mergeSort_of_perm (hp.trans hkeys.symm)
  refine ⟨⟨v, rfl, ?_⟩, ((Below.refl w.heap.size w).alloc (Nat.le_refl _) _).trans (hb.mono (by simp))⟩
  unfold Orow
  rw [cellsOf_fK, ← heq, ← hs, List.length_mergeSort]
  exact hrow
end Go.Proofs.Ytecbejmeejepmaa
