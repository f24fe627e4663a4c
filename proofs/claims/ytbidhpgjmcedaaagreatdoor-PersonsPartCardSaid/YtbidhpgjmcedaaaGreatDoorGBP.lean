/- Texts of this claim, put together: PartP, PartC, OnlyJoinW. -/
import Derived.Test.YtbidhpgjmcedaaaGreatDoorGBO
import Derived.Test.YtbidhpgjmcedaaaGreatDoorGBH
import Derived.Test.YtbidhpgjmcedaaaGreatDoorGBJ
/- Each touch is of one person, whose ids are those of its touches; and rules with a weak id more: plainly, and what the law's walk asks. -/
namespace Go.Proofs.YtbidhpgjmcedaaaGreatDoor
set_option linter.unusedVariables false
open Go.RowKit
theorem equal_I (H : Frz) (A1 : Option Addr) (c1 : Nat) (xs : List Int) (A2 : Option Addr) (c2 : Nat) (ys : List Int) (w : World) (hH : H.In w) (h1 : Rw H A1 1 fI xs) (h2 : Rw H A2 1 fI ys) (l1 : xs.length ≤ 1000000) (l2 : ys.length ≤ 1000000) :
    Calls Tryz.prog 39 #[.slice A1 xs.length c1, .slice A2 ys.length c2] w fun e w' => e = .returned (.bool (decide (xs = ys))) ∧ Below w.heap.size w w' := by
  by_cases hl : xs.length = ys.length
  · by_cases h0 : xs.length = 0
    · have ex : xs = [] := List.eq_nil_of_length_eq_zero h0
      have ey : ys = [] := List.eq_nil_of_length_eq_zero (hl ▸ h0)
      subst ex ey
      refine (Tryz.slices_Equal_int_empty A1 A2 c1 0 c2 w (by omega)).mono ?_
      rintro e w' ⟨rfl, rfl⟩
      exact ⟨by simp, Below.refl _ _⟩
    · obtain ⟨b1, o1, rfl, _, _⟩ := h1.at_ hH (show 0 < xs.length by omega) (by omega)
      obtain ⟨b2, o2, rfl, _, _⟩ := h2.at_ hH (show 0 < ys.length by omega) (by omega)
      have hc1 : ∀ j, j < xs.length → w.cell? ⟨b1, o1 + j, none⟩ = some (.int .i64 (xs.getD j 0)) := fun j hj => by
        obtain ⟨b, o, e, _, hc⟩ := h1.at_ hH hj (by omega)
        simp only [Option.some.injEq, Addr.mk.injEq, and_true] at e
        obtain ⟨rfl, rfl⟩ := e
        have := hc 0 (by omega)
        simpa [fI, List.getD_eq_getElem?_getD, List.getElem?_eq_getElem hj] using this
      have hc2 : ∀ j, j < ys.length → w.cell? ⟨b2, o2 + j, none⟩ = some (.int .i64 (ys.getD j 0)) := fun j hj => by
        obtain ⟨b, o, e, _, hc⟩ := h2.at_ hH hj (by omega)
        simp only [Option.some.injEq, Addr.mk.injEq, and_true] at e
        obtain ⟨rfl, rfl⟩ := e
        have := hc 0 (by omega)
        simpa [fI, List.getD_eq_getElem?_getD, List.getElem?_eq_getElem hj] using this
      refine (Tryz.slices_Equal_int b1 o1 xs.length c1 b2 o2 ys.length c2 xs ys w (Nat.le_refl _) (Nat.le_refl _) (by omega) (by omega) hc1 hc2).mono ?_
      rintro e w' ⟨rfl, q, rfl⟩
      rw [List.take_length, List.take_length]
      refine ⟨?_, (Below.refl w.heap.size w).trans ⟨rfl, rfl, rfl, Nat.le_refl _, fun _ _ => rfl⟩⟩
      have : (xs == ys) = decide (xs = ys) := by
        by_cases c : xs = ys
        · simp [c]
        · simp [c]
      rw [this]
  · refine (Tryz.slices_Equal_int_lens A1 A2 xs.length c1 ys.length c2 w hl).mono ?_
    rintro e w' ⟨rfl, rfl⟩
    refine ⟨?_, Below.refl _ _⟩
    have : decide (xs = ys) = false := by simp; intro c; exact hl (by rw [c])
    rw [this]
theorem idsO_of {ids : List IdD} (h : RisingI ids) (hz : ∀ x ∈ ids, idErr x.kind x.text = 0) : idsO ids = 0 := by
  refine fstErr_zero.2 fun i hi => ?_
  rw [idO1_at hi, if_neg (by rw [hz _ (List.getElem_mem hi)]; simp), if_neg]
  rintro ⟨h0, h1⟩
  have e : ids.getD (i - 1) ids[i] = ids[i - 1] := by rw [List.getD_eq_getElem?_getD, List.getElem?_eq_getElem (by omega), Option.getD_some]
  rw [e] at h1
  have h2 := List.pairwise_iff_getElem.1 h (i - 1) i (by omega) hi (by omega)
  have h3 := idCmp_ok.swap ids[i - 1] ids[i]
  omega
def weakR (r : RulD) (wa : Option Addr) (wc : Nat) (ws : List IdD) : RulD := { r with wa := wa, wc := wc, weaks := ws }
theorem rul_weak {r : RulD} {wa : Option Addr} {wc : Nat} {ws : List IdD} (h : rulE r = 0) (h1 : RisingI ws) (h2 : ∀ x ∈ ws, idErr x.kind x.text = 0) (h3 : ws.length ≤ 200) : rulE (weakR r wa wc ws) = 0 := by
  have h4 := idsO_of h1 h2
  unfold rulE at h ⊢
  show (if kdsE r.kinds ≠ 0 then kdsE r.kinds else if ¬ (2 ≤ r.most ∧ r.most ≤ 2000) then 1 else if 200 < ws.length then 2 else if idsO ws ≠ 0 then idsO ws else sursE r.surs) = 0
  by_cases c1 : kdsE r.kinds ≠ 0
  · rw [if_pos c1] at h; exact absurd h c1
  · rw [if_neg c1] at h ⊢
    by_cases c2 : ¬ (2 ≤ r.most ∧ r.most ≤ 2000)
    · rw [if_pos c2] at h; cases h
    · rw [if_neg c2] at h ⊢
      rw [if_neg (by omega), if_neg (by rw [h4]; simp)]
      by_cases c3 : 200 < r.weaks.length
      · rw [if_pos c3] at h; cases h
      · rw [if_neg c3] at h
        by_cases c4 : idsO r.weaks ≠ 0
        · rw [if_pos c4] at h; exact absurd h c4
        · rw [if_neg c4] at h; exact h
theorem weak_ids {r : RulD} (h : rulE r = 0) : ∀ x ∈ r.weaks, idErr x.kind x.text = 0 := by
  unfold rulE at h
  by_cases c1 : kdsE r.kinds ≠ 0
  · rw [if_pos c1] at h; exact absurd h c1
  · rw [if_neg c1] at h
    by_cases c2 : ¬ (2 ≤ r.most ∧ r.most ≤ 2000)
    · rw [if_pos c2] at h; cases h
    · rw [if_neg c2] at h
      by_cases c3 : 200 < r.weaks.length
      · rw [if_pos c3] at h; cases h
      · rw [if_neg c3] at h
        by_cases c4 : idsO r.weaks ≠ 0
        · rw [if_pos c4] at h; exact absurd h c4
        · exact (rising_of (Classical.not_not.1 c4)).2
theorem weak_J {r : RulD} {ts : List TchD} {wa : Option Addr} {wc : Nat} {ws : List IdD} {x : IdD} (hw : ∀ y, y ∈ ws ↔ y ∈ r.weaks ∨ y = x) : JD (weakR r wa wc ws) ts = minusJ (JD r ts) x := funext fun y => joins_weak hw y
theorem keyF_mem {J : IdD → Bool} {ids : List IdD} (h : ids ≠ []) : keyF J ids ∈ ids := by
  unfold keyF
  cases e : ids.find? J with
  | some x => exact List.mem_of_find?_eq_some e
  | none =>
    cases ids with
    | nil => exact absurd rfl h
    | cons a l => simp
theorem KeyAt.uniq {J : IdD → Bool} {ts : List TchD} {rep : Nat → Nat} {key : IdD} {k k' : Nat} (h : KeyAt J ts rep key k) (h' : KeyAt J ts rep key k') : k = k' := by
  rcases Nat.lt_trichotomy k k' with c | c | c
  · exact absurd (h.eq h.lt) (h'.ne k h.lt c)
  · exact c
  · exact absurd (h'.eq h'.lt) (h.ne k' h'.lt c)
section
variable {J : IdD → Bool} {ts : List TchD} {rr : List Nat} {ps : List PerD}
theorem pers_sum (hu : Uf (Share J ts) rr) (hq : PersQ J ts (repN rr) ps) : (ps.map fun p => p.nos.length).sum = ts.length := by
  have h := cls_sum (fun i => repN_le rr i) (fun i => repN_idem hu.dn i) ts.length
  rw [← h]
  congr 1
  apply List.ext_getElem
  · rw [List.length_map, List.length_map, hq.len]
  · intro k h1 h2
    rw [List.length_map] at h1 h2
    rw [List.getElem_map, List.getElem_map, hq.nos k h2 h1, List.length_map]
theorem sum_take (l : List Nat) (i : Nat) : (l.take i).sum ≤ l.sum := by
  have h := congrArg List.sum (List.take_append_drop i l)
  rw [List.sum_append] at h
  omega
/-- Each touch is of a person. -/
theorem pers_of_touch (hu : Uf (Share J ts) rr) (hq : PersQ J ts (repN rr) ps) (hno : ts.Pairwise fun a b => a.no < b.no) {i : Nat} (hi : i < ts.length) : ∃ p ∈ ps, p.nos.contains ts[i].no = true := by
  have hm : repN rr i ∈ rts (repN rr) ts.length := mem_rts.2 ⟨Nat.lt_of_le_of_lt (repN_le rr i) hi, repN_idem hu.dn i⟩
  obtain ⟨k, hk, hke⟩ := List.getElem_of_mem hm
  have hkp : k < ps.length := by rw [hq.len]; exact hk
  exact ⟨ps[k], List.getElem_mem hkp, (nos_in hq hno hkp hi).2 ⟨hk, hke.symm⟩⟩
/-- A person has the ids of its touches. -/
theorem ids_of_touch (hq : PersQ J ts (repN rr) ps) (hno : ts.Pairwise fun a b => a.no < b.no) {k : Nat} (hk : k < ps.length) {i : Nat} (hi : i < ts.length) (h : ps[k].nos.contains ts[i].no = true) {x : IdD} (hx : x ∈ ts[i].ids) : x ∈ ps[k].ids := by
  obtain ⟨hkr, e⟩ := (nos_in hq hno hk hi).1 h
  exact ((hq.ids k hkr hk).2 x).2 (List.mem_flatMap.2 ⟨i, in_cls.2 ⟨hi, e⟩, by rw [tAt_lt hi]; exact hx⟩)
/-- A person's key, if no earlier one has it. -/
theorem key_at (hq : PersQ J ts (repN rr) ps) {k : Nat} (hk : k < ps.length) (h : ∀ j (hj : j < ps.length), j < k → ps[j].key ≠ ps[k].key) : KeyAt J ts (repN rr) ps[k].key k := by
  have hkr : k < (rts (repN rr) ts.length).length := by rw [← hq.len]; exact hk
  refine ⟨hkr, fun h1 => (hq.key k h1 hk).symm, fun j h1 hjk => ?_⟩
  have hj : j < ps.length := by rw [hq.len]; exact h1
  rw [← hq.key j h1 hj]
  exact h j hj hjk
theorem pers_ids_len (hq : PersQ J ts (repN rr) ps) (hil : ∀ t ∈ ts, t.ids.length ≤ 1000) (hl : ts.length ≤ 100) {p : PerD} (hp : p ∈ ps) : p.ids.length ≤ 1000000 := by
  obtain ⟨k, hk, rfl⟩ := List.getElem_of_mem hp
  have hkr : k < (rts (repN rr) ts.length).length := by rw [← hq.len]; exact hk
  have h1 := idsOk_len (hq.ids k hkr hk)
  have h2 := flatMap_le (m := 1000) (fun q => (tAt ts q).ids) (cls (repN rr) ts.length (rts (repN rr) ts.length)[k]) (fun q hq2 => hil _ (tAt_mem (cls_lt hq2)))
  have h3 := cls_le (repN rr) ts.length (rts (repN rr) ts.length)[k]
  have h4 : (cls (repN rr) ts.length (rts (repN rr) ts.length)[k]).length * 1000 ≤ 100 * 1000 := Nat.mul_le_mul_right _ (by omega)
  omega
theorem cut_spec (hu : Uf (Share J ts) rr) (hq : PersQ J ts (repN rr) ps) {i : Nat} (hi : i < ps.length) (hf : ∀ j (hj : j < ps.length), j < i → ps[j].key ≠ ps[i].key) {rr2 : List Nat} {k2 : Nat} {ids2 cs : List IdD} (hu2 : Uf (Share J ts) rr2) (hk2 : KeyAt J ts (repN rr2) ps[i].key k2)
    (h : ∀ (h : k2 < (rts (repN rr2) ts.length).length), IdsOk ((cls (repN rr2) ts.length (rts (repN rr2) ts.length)[k2]).flatMap fun q => (tAt ts q).ids) ids2 ∧ ∀ x, x ∈ cs ↔ x ∈ ids2 ∧ ¬ WholeD J ts (cls (repN rr2) ts.length (rts (repN rr2) ts.length)[k2]) x) :
    ∃ ρ, ρ < ts.length ∧ repN rr ρ = ρ ∧ ps[i].nos = ((cls (repN rr) ts.length ρ).map fun q => (tAt ts q).no) ∧ ∀ y ∈ ps[i].ids, (y ∈ cs ↔ ¬ WholeD J ts (cls (repN rr) ts.length ρ) y) := by
  have e : repN rr2 = repN rr := funext fun i => hu2.rep_eq hu i
  rw [e] at hk2 h
  obtain rfl := hk2.uniq (key_at hq hi hf)
  obtain ⟨h1, h2⟩ := h hk2.lt
  have hm := mem_rts.1 (List.getElem_mem hk2.lt)
  refine ⟨(rts (repN rr) ts.length)[k2]'hk2.lt, hm.1, hm.2, hq.nos k2 hk2.lt hi, fun y hy => ?_⟩
  rw [h2 y]
  have : y ∈ ids2 := (h1.2 y).2 (((hq.ids k2 hk2.lt hi).2 y).1 hy)
  exact ⟨fun h => h.2, fun h => ⟨this, h⟩⟩
/-- A person's key is an id of a touch. -/
theorem key_mem (hq : PersQ J ts (repN rr) ps) (h0 : ∀ t ∈ ts, t.ids ≠ []) {i : Nat} (hi : i < ps.length) : ∃ t ∈ ts, ps[i].key ∈ t.ids := by
  have hkr : i < (rts (repN rr) ts.length).length := by rw [← hq.len]; exact hi
  have hm := mem_rts.1 (List.getElem_mem hkr)
  refine ⟨_, tAt_mem hm.1, ?_⟩
  rw [hq.key i hkr hi]
  exact keyF_mem (h0 _ (tAt_mem hm.1))
/-- A person's ids are ids of touches. -/
theorem ids_mem (hq : PersQ J ts (repN rr) ps) {i : Nat} (hi : i < ps.length) {y : IdD} (hy : y ∈ ps[i].ids) : ∃ t ∈ ts, y ∈ t.ids := by
  have hkr : i < (rts (repN rr) ts.length).length := by rw [← hq.len]; exact hi
  obtain ⟨q, hq2, hyq⟩ := List.mem_flatMap.1 (((hq.ids i hkr hi).2 y).1 hy)
  exact ⟨_, tAt_mem (cls_lt hq2), hyq⟩
end
end Go.Proofs.YtbidhpgjmcedaaaGreatDoor

/- The functions that the law of persons' parts hands on. -/
namespace Go.Proofs.YtbidhpgjmcedaaaGreatDoor
set_option linter.unusedVariables false
open Go.RowKit
set_option maxHeartbeats 2000000 in
set_option maxRecDepth 100000 in
theorem part1_any (H : Frz) (p : PerD) (tb : Nat) (a : Int) (w : World) (hH : H.In w) (hR : Rw H p.na 1 fI p.nos) (hl : p.nos.length ≤ 1000000) (ha : H.cell? ⟨tb, 0, none⟩ = some (.int .i64 a)) :
    Calls Tryz.prog 29 #[.agg #[fPer p 0, fPer p 1, fPer p 2, fPer p 3], .pointer (some ⟨tb, 0, none⟩)] w fun e w' => e = .returned (.bool (p.nos.contains a)) ∧ Below w.heap.size w w' := by
  rw [show fPer p 0 = .int .i64 p.key.kind from rfl, show fPer p 1 = .string p.key.text from rfl, show fPer p 2 = .slice p.na p.nos.length p.nc from rfl, show fPer p 3 = .slice p.ia p.ids.length p.ic from rfl]
  have HB := Lib.hid (new1 (w := w) (.cells #[.int .i64 p.key.kind, .string p.key.text, .slice p.na p.nos.length p.nc, .slice p.ia p.ids.length p.ic] 64))
  have HIN := Lib.hid (hH.alloc (.cells #[.int .i64 p.key.kind, .string p.key.text, .slice p.na p.nos.length p.nc, .slice p.ia p.ids.length p.ic] 64))
  have z2 : (w.alloc (.cells #[.int .i64 p.key.kind, .string p.key.text, .slice p.na p.nos.length p.nc, .slice p.ia p.ids.length p.ic] 64)).cell? ⟨w.heap.size, 2, none⟩ = some (.slice p.na p.nos.length p.nc) := newc 2 rfl
  have xa := HIN.out.cell ha
  have HC := Lib.hid (fun W (hW : H.In W) => contains_I H p.na p.nc p.nos a W hW hR hl)
  clear hH hR ha
  go_enter Tryz.func29, Tryz.ntmps29
  go_upto_region 1 with (fail)
  generalize w.alloc (.cells #[.int .i64 p.key.kind, .string p.key.text, .slice p.na p.nos.length p.nc, .slice p.ia p.ids.length p.ic] 64) = W1 at *
  go_wp2_with fail
  refine (HC.out W1 HIN.out).mono ?_
  rintro e W2 ⟨rfl, hb2⟩
  have HB2 := Lib.hid (HB.out.trans (hb2.mono HB.out.size))
  clear hb2 z2 xa
  go_wp2_with fail
  go_ret
  exact ⟨ret_bool' (by simp), HB2.out⟩
set_option maxHeartbeats 2000000 in
set_option maxRecDepth 100000 in
theorem part2_any (H : Frz) (p : PerD) (xb : Nat) (k : IdD) (w : World) (hH : H.In w) (h0 : H.cell? ⟨xb, 0, none⟩ = some (.int .i64 k.kind)) (h1 : H.cell? ⟨xb, 1, none⟩ = some (.string k.text)) :
    Calls Tryz.prog 32 #[.agg #[fPer p 0, fPer p 1, fPer p 2, fPer p 3], .pointer (some ⟨xb, 0, none⟩)] w fun e w' => e = .returned (.bool (eqId p.key k)) ∧ Below w.heap.size w w' := by
  obtain ⟨⟨a, s⟩, na, nc, nos, ia, ic, ids⟩ := p
  obtain ⟨a2, s2⟩ := k
  simp only [fPer] at *
  have HB := Lib.hid (new1 (w := w) (.cells #[.int .i64 a, .string s, .slice na nos.length nc, .slice ia ids.length ic] 64))
  have hi := hH.alloc (.cells #[.int .i64 a, .string s, .slice na nos.length nc, .slice ia ids.length ic] 64)
  have z0 : (w.alloc (.cells #[.int .i64 a, .string s, .slice na nos.length nc, .slice ia ids.length ic] 64)).cell? ⟨w.heap.size, 0, none⟩ = some (.int .i64 a) := newc 0 rfl
  have z1 : (w.alloc (.cells #[.int .i64 a, .string s, .slice na nos.length nc, .slice ia ids.length ic] 64)).cell? ⟨w.heap.size, 1, none⟩ = some (.string s) := newc 1 rfl
  have x0 := hi.cell h0
  have x1 := hi.cell h1
  have HV : Hid (eqId ⟨a, s⟩ ⟨a2, s2⟩ = (decide (a = a2) && eqS s s2)) := rfl
  clear hH hi h0 h1
  go_enter Tryz.func32, Tryz.ntmps32
  go_upto_region 1 with (fail)
  generalize w.alloc (.cells #[.int .i64 a, .string s, .slice na nos.length nc, .slice ia ids.length ic] 64) = W1 at *
  cases k1 : (a == a2) with
  | false =>
    have hq : eqId ⟨a, s⟩ ⟨a2, s2⟩ = false := by
      rw [HV.out]
      have : decide (a = a2) = false := by simpa using k1
      rw [this]; rfl
    have HQ := Lib.hid hq
    clear HV hq
    go_wp2_with fail
    go_ret
    exact ⟨ret_bool' HQ.out.symm, HB.out⟩
  | true =>
    cases k2 : (s.toList == s2.toList) with
    | false =>
      have hq : eqId ⟨a, s⟩ ⟨a2, s2⟩ = false := by
        rw [HV.out]
        cases e : eqS s s2 with
        | false => simp
        | true => rw [eqS_iff.1 e] at k2; simp at k2
      have HQ := Lib.hid hq
      clear HV hq
      go_wp2_with fail
      go_ret
      exact ⟨ret_bool' HQ.out.symm, HB.out⟩
    | true =>
      have hq : eqId ⟨a, s⟩ ⟨a2, s2⟩ = true := by
        have h1 : a = a2 := by simpa using k1
        have h2 : s = s2 := eqS_iff.1 k2
        subst h1 h2
        exact eqId_self _
      have HQ := Lib.hid hq
      clear HV hq
      go_wp2_with fail
      go_ret
      exact ⟨ret_bool' HQ.out.symm, HB.out⟩
set_option maxHeartbeats 2000000 in
set_option maxRecDepth 100000 in
theorem part3_any (H : Frz) (p : PerD) (xb : Nat) (A : Option Addr) (c : Nat) (l : List Int) (w : World) (hH : H.In w) (hR : Rw H p.na 1 fI p.nos) (hl : p.nos.length ≤ 1000000) (h2 : H.cell? ⟨xb, 2, none⟩ = some (.slice A l.length c)) (hR2 : Rw H A 1 fI l) (hl2 : l.length ≤ 1000000) :
    Calls Tryz.prog 38 #[.agg #[fPer p 0, fPer p 1, fPer p 2, fPer p 3], .pointer (some ⟨xb, 0, none⟩)] w fun e w' => e = .returned (.bool (decide (p.nos = l))) ∧ Below w.heap.size w w' := by
  rw [show fPer p 0 = .int .i64 p.key.kind from rfl, show fPer p 1 = .string p.key.text from rfl, show fPer p 2 = .slice p.na p.nos.length p.nc from rfl, show fPer p 3 = .slice p.ia p.ids.length p.ic from rfl]
  have HB := Lib.hid (new1 (w := w) (.cells #[.int .i64 p.key.kind, .string p.key.text, .slice p.na p.nos.length p.nc, .slice p.ia p.ids.length p.ic] 64))
  have HIN := Lib.hid (hH.alloc (.cells #[.int .i64 p.key.kind, .string p.key.text, .slice p.na p.nos.length p.nc, .slice p.ia p.ids.length p.ic] 64))
  have z2 : (w.alloc (.cells #[.int .i64 p.key.kind, .string p.key.text, .slice p.na p.nos.length p.nc, .slice p.ia p.ids.length p.ic] 64)).cell? ⟨w.heap.size, 2, none⟩ = some (.slice p.na p.nos.length p.nc) := newc 2 rfl
  have xa := HIN.out.cell h2
  have HC := Lib.hid (fun W (hW : H.In W) => equal_I H p.na p.nc p.nos A c l W hW hR hR2 hl hl2)
  clear hH hR h2 hR2
  go_enter Tryz.func38, Tryz.ntmps38
  go_upto_region 1 with (fail)
  generalize w.alloc (.cells #[.int .i64 p.key.kind, .string p.key.text, .slice p.na p.nos.length p.nc, .slice p.ia p.ids.length p.ic] 64) = W1 at *
  go_wp2_with fail
  refine (HC.out W1 HIN.out).mono ?_
  rintro e W2 ⟨rfl, hb2⟩
  have HB2 := Lib.hid (HB.out.trans (hb2.mono HB.out.size))
  clear hb2 z2 xa HC
  go_wp2_with fail
  go_ret
  exact ⟨ret_bool' rfl, HB2.out⟩
/-- Rules with a weak id more, in the making. -/
def φPw (rb B0 : Nat) (r : RulD) (y : IdD) (i : Nat) (x : Value) (W : World) : Prop :=
  match i with
  | 0 => x = .pointer (some ⟨rb, 2, none⟩)
  | 1 => x = .slice r.wa r.weaks.length r.wc
  | 2 => Orow W B0 55 2 fId x r.weaks
  | 3 => x = .agg #[.int .i64 y.kind, .string y.text]
  | _ => ∃ q, x = .slice (some ⟨q, 0, none⟩) 1 1 ∧ W.heap[q]? = some (.cells #[.int .i64 y.kind, .string y.text] 55 (0, 0))
theorem φPw_mono {rb B0 : Nat} {r : RulD} {y : IdD} (i : Nat) (x : Value) (W W' : World) (_ : i < 5) (he : Below W.heap.size W W') (h : φPw rb B0 r y i x W) : φPw rb B0 r y i x W' := by
  match i, h with
  | 0, h => exact h
  | 1, h => exact h
  | 2, h => exact Orow.below h he
  | 3, h => exact h
  | i + 4, h =>
    obtain ⟨q, h1, h2⟩ := h
    exact ⟨q, h1, (he.block q (lt_of_heap h2)).trans h2⟩
structure WeakS (W9 : World) (kb : Nat) (r : RulD) (B : Nat) (wa : Option Addr) (wc : Nat) (ws : List IdD) (wr : World) : Prop where
  row : Orow wr B 55 2 fId (.slice wa ws.length wc) ws
  obj : wr.heap[kb]? = some (.cells #[.slice r.ka r.kinds.length r.kc, .int .i64 r.most, .slice wa ws.length wc, .slice r.sa r.surs.length r.sc] 44 (0, 0))
  bel : Below W9.heap.size W9 wr
  kl : kb < B
  kg : W9.heap.size ≤ kb
section
variable {W9 wr W' : World} {kb B : Nat} {r : RulD} {wa : Option Addr} {wc : Nat} {ws ws' : List IdD}
theorem weak_put {v0 v' : Value} (o : Orow W' B 55 2 fId v' ws') (ho : W'.heap[kb]? = some (.cells #[.slice r.ka r.kinds.length r.kc, .int .i64 r.most, v0, .slice r.sa r.surs.length r.sc] 44 (0, 0))) (hb : Below W9.heap.size W9 W') (kl : kb < B) (kg : W9.heap.size ≤ kb) :
    W'.cell? ⟨kb, 2, none⟩ = some v0 ∧ W'.frozen? ⟨kb, 2, none⟩ = false ∧ ∃ A' c', v' = .slice A' ws'.length c' ∧ WeakS W9 kb r B A' c' ws' (W'.setCell ⟨kb, 2, none⟩ v') := by
  obtain ⟨A', c', hv, -⟩ := o.slice
  subst hv
  refine ⟨cell_h ho 2 rfl, froz_h ho 2, A', c', rfl, ⟨ownsRow_heap o (fun g e => Below.heap_setCell W' _ _ g (by have := (o.lt e).1; show g ≠ kb; omega)), by simp [World.setCell, Array.getElem?_modify, ho], hb.setCell (p := ⟨kb, 2, none⟩) kg _, kl, kg⟩⟩
theorem WeakS.kept (h : WeakS W9 kb r B wa wc ws wr) (g1 : wr.grownBy W' (Value.slice wa ws.length wc).ownBlock) :
    W'.heap[kb]? = some (.cells #[.slice r.ka r.kinds.length r.kc, .int .i64 r.most, .slice wa ws.length wc, .slice r.sa r.surs.length r.sc] 44 (0, 0)) ∧ Below W9.heap.size W9 W' := by
  have hkl := h.kl
  have hkg := h.kg
  refine ⟨(g1.block kb (lt_of_heap h.obj) (fun e => by have := (h.row.lt e.symm).1; omega)).trans h.obj, ⟨g1.os.trans h.bel.os, g1.tape.trans h.bel.tape, g1.output.trans h.bel.output, Nat.le_trans h.bel.size g1.size, fun k hk => (g1.block k (Nat.lt_of_lt_of_le hk h.bel.size) (fun e => by have := (h.row.lt e.symm).1; omega)).trans (h.bel.block k hk)⟩⟩
theorem WeakS.sorted (h : WeakS W9 kb r B wa wc ws wr) (hl : ws'.length = ws.length) (o : Orow W' B 55 2 fId (.slice wa ws.length wc) ws') (g1 : wr.grownBy W' (Value.slice wa ws.length wc).ownBlock) : WeakS W9 kb r B wa wc ws' W' := by
  obtain ⟨h1, h2⟩ := h.kept g1
  exact ⟨by rw [hl]; exact o, by rw [hl]; exact h1, h2, h.kl, h.kg⟩
/-- The rules that a weak id more makes. -/
theorem WeakS.told (h : WeakS W9 kb r B wa wc ws wr) {H : Frz} {A : Option Addr} {ts : List TchD} (ht : Told H A r ts) (hH : H.In wr) (h1 : RisingI ws) (h2 : ∀ x ∈ ws, idErr x.kind x.text = 0) (h3 : ws.length ≤ 200) : Told (wholeH wr) A (weakR r wa wc ws) ts := by
  have hle : H.Le (wholeH wr) := fun b o e => hH b o e
  obtain ⟨A', c', e, _, hR⟩ := h.row.memR
  injection e with e1 _ e2
  subst e1
  exact ⟨ht.row.le hle, fun t htm => (ht.inn t htm).le hle, ⟨ht.rul.k.le hle, hR, ht.rul.u.le hle, fun x hx => (ht.rul.s x hx).le hle⟩, ⟨ht.sz.k, by show ws.length ≤ _; omega, fun x hx => by have := (fit_of (h2 x hx)).2; omega, ht.sz.u, ht.sz.us⟩, rul_weak ht.rz h1 h2 h3, ht.right, ht.len⟩
end
end Go.Proofs.YtbidhpgjmcedaaaGreatDoor

/- With a touch more, nobody is parted, unless an id comes to have more than Most touches: the law. -/
namespace Go.Proofs.YtbidhpgjmcedaaaGreatDoor
open Go.RowKit
theorem joinsMake : JoinsMake := fun _ _ _ _ _ h hK hP hN => h.joinRules hK hP hN
end Go.Proofs.YtbidhpgjmcedaaaGreatDoor
