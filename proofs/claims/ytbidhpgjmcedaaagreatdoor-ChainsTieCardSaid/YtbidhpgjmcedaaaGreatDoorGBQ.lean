/- Texts of this claim, put together: FarP, ChainP, IdxTch, RowsA, CompI. -/
import Derived.Test.YtbidhpgjmcedaaaGreatDoorGAH
import Derived.Test.YtbidhpgjmcedaaaGreatDoorGBP
import Derived.Test.YtbidhpgjmcedaaaGreatDoorGAC
import Derived.Test.YtbidhpgjmcedaaaGreatDoorGAB
import Derived.StillTailTactics
import Derived.Deep.Cut
import Derived.Test.YtbidhpgjmcedaaaGreatDoorGAI
import Derived.Test.YtbidhpgjmcedaaaGreatDoorGAG
import Derived.Laws.OwnMore
import Derived.Test.YtbidhpgjmcedaaaGreatDoorGAN
/- How far each place is away, step by step: plainly. -/
namespace Go.Proofs.YtbidhpgjmcedaaaGreatDoor
set_option linter.unusedVariables false
/-- How many of the first n places are not reached. -/
def negN (F : Nat → Int) (n : Nat) : Nat := ((List.range n).filter fun i => decide (F i < 0)).length
def setF (F : Nat → Int) (k : Nat) (z : Int) (i : Nat) : Int := if i = k then z else F i
theorem negN_succ (F : Nat → Int) (n : Nat) : negN F (n + 1) = negN F n + if F n < 0 then 1 else 0 := by
  unfold negN
  rw [List.range_succ, List.filter_append, List.length_append]
  congr 1
  by_cases h : F n < 0
  · rw [if_pos h, List.filter_cons_of_pos (by simpa using h)]; rfl
  · rw [if_neg h, List.filter_cons_of_neg (by simpa using h)]; rfl
theorem negN_congr {F G : Nat → Int} {n : Nat} (h : ∀ i, i < n → (F i < 0 ↔ G i < 0)) : negN F n = negN G n := by
  unfold negN
  congr 1
  refine List.filter_congr fun i hi => ?_
  have := h i (List.mem_range.1 hi)
  rw [Bool.eq_iff_iff, decide_eq_true_eq, decide_eq_true_eq]
  exact this
theorem negN_set {F : Nat → Int} {n k : Nat} {z : Int} (hk : k < n) (h0 : F k < 0) (hz : 0 ≤ z) : negN (setF F k z) n + 1 = negN F n := by
  induction n with
  | zero => omega
  | succ n ih =>
    rw [negN_succ, negN_succ]
    by_cases e : k = n
    · subst e
      rw [if_pos h0, if_neg (by simp [setF]; omega), negN_congr (F := setF F k z) (G := F) (fun i hi => by simp [setF, show i ≠ k by omega])]
    · have e2 : setF F k z n = F n := by simp [setF, show n ≠ k by omega]
      rw [e2, ← ih (by omega)]
      omega
/-- The state of the search from a place: who waits, whose neighbours are looked at, and which of them are to come. -/
structure FarI (E : Nat → Nat → Prop) (n s : Nat) (F : Nat → Int) (W : List Nat) (q : Nat) (rest : List Nat) : Prop where
  sn : s < n
  z : F s = 0
  zo : ∀ i, i < n → F i = 0 → i = s
  ge : ∀ i, -1 ≤ F i
  par : ∀ i, i < n → 0 < F i → ∃ j, j < n ∧ E j i ∧ F j = F i - 1
  cov : ∀ i, i < n → 0 ≤ F i → ∀ k, k < n → E i k → 0 ≤ F k ∨ i ∈ W ∨ (i = q ∧ k ∈ rest)
  que : ∀ i ∈ W, i < n ∧ 0 ≤ F i
  tied : ∀ i, i < n → 0 ≤ F i → Tied E s i
  hq : q < n ∧ 0 ≤ F q
  top : ∀ i, i < n → F i + 1 + negN F n ≤ n
section
variable {E : Nat → Nat → Prop} {n s q : Nat} {F : Nat → Int} {W rest : List Nat}
theorem FarI.start (hs : s < n) : FarI E n s (fun i => if i = s then 0 else -1) [s] s [] := by
  have hneg : negN (fun i => if i = s then (0 : Int) else -1) n + 1 = n := by
    have h1 := negN_set (F := fun _ => (-1 : Int)) (n := n) (k := s) (z := 0) hs (by omega) (by omega)
    have h2 : negN (fun _ => (-1 : Int)) n = n := by
      unfold negN
      rw [List.filter_eq_self.2 (fun _ _ => by simp), List.length_range]
    rw [h2] at h1
    exact h1
  refine ⟨hs, by simp, fun i hi h => ?_, fun i => ?_, fun i hi h => ?_, fun i hi h k hk e => ?_, fun i hi => ?_, fun i hi h => ?_, ⟨hs, by simp⟩, fun i hi => ?_⟩
  · by_cases e : i = s
    · exact e
    · simp [e] at h
  · try simp only
    split <;> omega
  · try simp only at h
    split at h <;> omega
  · try simp only at h
    split at h
    · next e => subst e; exact Or.inr (Or.inl (by simp))
    · omega
  · simp at hi
    subst hi
    exact ⟨hs, by simp⟩
  · try simp only at h
    split at h
    · next e => subst e; exact .refl _
    · omega
  · try simp only
    split <;> omega
theorem FarI.take (h : FarI E n s F (q :: W) 0 [] ∨ ∃ p, FarI E n s F (q :: W) p []) {nbs : List Nat} (hn : ∀ k, k < n → E q k → k ∈ nbs) : FarI E n s F W q nbs := by
  obtain ⟨p, h⟩ : ∃ p, FarI E n s F (q :: W) p [] := h.elim (fun h => ⟨0, h⟩) id
  refine ⟨h.sn, h.z, h.zo, h.ge, h.par, fun i hi h0 k hk e => ?_, fun i hi => h.que i (List.mem_cons_of_mem _ hi), h.tied, h.que q (by simp), h.top⟩
  rcases h.cov i hi h0 k hk e with a | a | ⟨_, a⟩
  · exact Or.inl a
  · rcases List.mem_cons.1 a with a | a
    · subst a
      exact Or.inr (Or.inr ⟨rfl, hn k hk e⟩)
    · exact Or.inr (Or.inl a)
  · cases a
theorem FarI.seen {k : Nat} (h : FarI E n s F W q (k :: rest)) (hk : 0 ≤ F k) : FarI E n s F W q rest := by
  refine ⟨h.sn, h.z, h.zo, h.ge, h.par, fun i hi h0 k' hk' e => ?_, h.que, h.tied, h.hq, h.top⟩
  rcases h.cov i hi h0 k' hk' e with a | a | ⟨b, a⟩
  · exact Or.inl a
  · exact Or.inr (Or.inl a)
  · rcases List.mem_cons.1 a with a | a
    · subst a; exact Or.inl hk
    · exact Or.inr (Or.inr ⟨b, a⟩)
theorem FarI.new {k : Nat} (h : FarI E n s F W q (k :: rest)) (hkn : k < n) (hk : F k < 0) (he : E q k) : FarI E n s (setF F k (F q + 1)) (W ++ [k]) q rest ∧ negN (setF F k (F q + 1)) n + 1 = negN F n := by
  have hq0 := h.hq.2
  have hks : k ≠ s := fun e => by subst e; have := h.z; omega
  have hqk : q ≠ k := fun e => by subst e; omega
  have hneg := negN_set (z := F q + 1) hkn hk (by omega)
  have oth : ∀ i, i ≠ k → setF F k (F q + 1) i = F i := fun i hi => by unfold setF; rw [if_neg hi]
  have own : setF F k (F q + 1) k = F q + 1 := by unfold setF; rw [if_pos rfl]
  have up : ∀ i, 0 ≤ F i → 0 ≤ setF F k (F q + 1) i := fun i hi => by
    rw [oth i (fun e => by subst e; omega)]; exact hi
  refine ⟨⟨h.sn, by rw [oth s (fun e => hks e.symm)]; exact h.z, fun i hi h0 => ?_, fun i => ?_, fun i hi h0 => ?_, fun i hi h0 k' hk' e => ?_, fun i hi => ?_, fun i hi h0 => ?_, ⟨h.hq.1, by rw [oth q hqk]; exact hq0⟩, fun i hi => ?_⟩, hneg⟩
  · by_cases e : i = k
    · subst e; rw [own] at h0; omega
    · rw [oth i e] at h0; exact h.zo i hi h0
  · by_cases e : i = k
    · subst e; rw [own]; omega
    · rw [oth i e]; exact h.ge i
  · by_cases e : i = k
    · subst e
      exact ⟨q, h.hq.1, he, by rw [own, oth q hqk]; omega⟩
    · rw [oth i e] at h0 ⊢
      obtain ⟨j, hj, e1, e2⟩ := h.par i hi h0
      exact ⟨j, hj, e1, by rw [oth j (fun c => by subst c; omega)]; exact e2⟩
  · by_cases c : i = k
    · subst c
      exact Or.inr (Or.inl (by simp))
    · rw [oth i c] at h0
      rcases h.cov i hi h0 k' hk' e with a | a | ⟨b, a⟩
      · exact Or.inl (up k' a)
      · exact Or.inr (Or.inl (List.mem_append_left _ a))
      · rcases List.mem_cons.1 a with a | a
        · subst a; exact Or.inl (by rw [own]; omega)
        · exact Or.inr (Or.inr ⟨b, a⟩)
  · rcases List.mem_append.1 hi with hi | hi
    · exact ⟨(h.que i hi).1, up i (h.que i hi).2⟩
    · simp at hi
      subst hi
      exact ⟨hkn, by rw [own]; omega⟩
  · by_cases c : i = k
    · subst c
      exact .trans (h.tied q h.hq.1 hq0) (.edge he)
    · rw [oth i c] at h0
      exact h.tied i hi h0
  · by_cases c : i = k
    · subst c
      rw [own]
      have := h.top q h.hq.1
      omega
    · rw [oth i c]
      have := h.top i hi
      omega
/-- What the search tells. -/
structure FarD (E : Nat → Nat → Prop) (n s : Nat) (F : Nat → Int) : Prop where
  zo : ∀ i, i < n → (F i = 0 ↔ i = s)
  ge : ∀ i, -1 ≤ F i
  par : ∀ i, i < n → 0 < F i → ∃ j, j < n ∧ E j i ∧ F j = F i - 1
  iff : ∀ i, i < n → (0 ≤ F i ↔ Tied E s i)
  top : ∀ i, i < n → F i ≤ n
theorem FarI.done (h : FarI E n s F [] q []) (hE : ∀ i j, E i j → E j i ∧ i < n ∧ j < n) : FarD E n s F := by
  have step : ∀ i j, E i j → i < n → j < n → (0 ≤ F i → 0 ≤ F j) := fun i j e hi hj h0 => by
    rcases h.cov i hi h0 j hj e with a | a | ⟨_, a⟩
    · exact a
    · cases a
    · cases a
  have key : ∀ i j, Tied E i j → (i < n ↔ j < n) ∧ (i < n → (0 ≤ F i ↔ 0 ≤ F j)) := by
    intro i j t
    induction t with
    | refl i => exact ⟨Iff.rfl, fun _ => Iff.rfl⟩
    | edge e =>
      obtain ⟨e', h1, h2⟩ := hE _ _ e
      exact ⟨⟨fun _ => h2, fun _ => h1⟩, fun _ => ⟨step _ _ e h1 h2, step _ _ e' h2 h1⟩⟩
    | symm _ ih => exact ⟨ih.1.symm, fun hj => (ih.2 (ih.1.2 hj)).symm⟩
    | trans _ _ ih ih' => exact ⟨ih.1.trans ih'.1, fun hi => (ih.2 hi).trans (ih'.2 (ih.1.1 hi))⟩
  exact ⟨fun i hi => ⟨h.zo i hi, fun e => by subst e; exact h.z⟩, h.ge, h.par, fun i hi => ⟨h.tied i hi, fun t => ((key s i t).2 h.sn).1 (by have := h.z; omega)⟩, fun i hi => by have := h.top i hi; omega⟩
end
end Go.Proofs.YtbidhpgjmcedaaaGreatDoor

/- A chain of touches: plainly. -/
namespace Go.Proofs.YtbidhpgjmcedaaaGreatDoor
set_option linter.unusedVariables false
/-- A link: the number of a touch, and the id by which it is tied to the one before. -/
structure LnkD where
  no : Int
  id : IdD
def fLnk (d : LnkD) : Nat → Value
  | 0 => .int .i64 d.no
  | 1 => .int .i64 d.id.kind
  | _ => .string d.id.text
/-- The links of a chain from place s to place p. -/
structure Chn (J : IdD → Bool) (ts : List TchD) (s : Nat) (cs : List LnkD) (p : Nat) : Prop where
  hs : s < ts.length
  hp : p < ts.length
  hd : ∃ c, cs[0]? = some c ∧ c.no = ts[s].no
  lst : ∃ c, cs[cs.length - 1]? = some c ∧ c.no = ts[p].no
  lnk : ∀ k c d, cs[k]? = some c → cs[k + 1]? = some d → ∃ (i j : Nat) (hi : i < ts.length) (hj : j < ts.length), i ≠ j ∧ c.no = ts[i].no ∧ d.no = ts[j].no ∧ J d.id = true ∧ d.id ∈ ts[i].ids ∧ d.id ∈ ts[j].ids
theorem Chn.one {J : IdD → Bool} {ts : List TchD} {s : Nat} (hs : s < ts.length) : Chn J ts s [⟨ts[s].no, zeroId⟩] s :=
  ⟨hs, hs, ⟨_, rfl, rfl⟩, ⟨_, rfl, rfl⟩, fun k c d _ h => by simp at h⟩
theorem Chn.pos {J : IdD → Bool} {ts : List TchD} {s p : Nat} {cs : List LnkD} (h : Chn J ts s cs p) : 0 < cs.length := by
  obtain ⟨c, e, _⟩ := h.hd
  exact (List.getElem?_eq_some_iff.1 e).1
theorem Chn.step {J : IdD → Bool} {ts : List TchD} {s p q : Nat} {cs : List LnkD} (h : Chn J ts s cs p) (hq : q < ts.length) (hne : p ≠ q) {x : IdD} (hJ : J x = true) (hx : x ∈ (ts[p]'h.hp).ids) (hy : x ∈ ts[q].ids) : Chn J ts s (cs ++ [⟨ts[q].no, x⟩]) q := by
  have hpos := h.pos
  refine ⟨h.hs, hq, ?_, ?_, fun k c d h1 h2 => ?_⟩
  · obtain ⟨c, e, e2⟩ := h.hd
    exact ⟨c, by rw [List.getElem?_append_left hpos]; exact e, e2⟩
  · exact ⟨⟨ts[q].no, x⟩, by simp, rfl⟩
  · by_cases hk : k + 1 < cs.length
    · rw [List.getElem?_append_left (by omega)] at h1
      rw [List.getElem?_append_left hk] at h2
      exact h.lnk k c d h1 h2
    · have hk2 : k + 1 = cs.length := by
        have := (List.getElem?_eq_some_iff.1 h2).1
        simp at this
        omega
      rw [List.getElem?_append_left (by omega)] at h1
      rw [List.getElem?_append_right (by omega), hk2, Nat.sub_self] at h2
      obtain rfl := Option.some.inj h2
      obtain ⟨c', e, e2⟩ := h.lst
      rw [show cs.length - 1 = k by omega, h1] at e
      obtain rfl := Option.some.inj e
      exact ⟨p, q, h.hp, hq, hne, e2, rfl, hJ, hx, hy⟩
theorem two_mem {l : List Int} {a b : Int} (ha : a ∈ l) (hb : b ∈ l) (h : a ≠ b) : 2 ≤ l.length := by
  match l, ha, hb with
  | [x], ha, hb =>
    simp at ha hb
    exact absurd (ha.trans hb.symm) h
  | _ :: _ :: _, _, _ => simp
/-- A link's id is among the ids that join, and the touches on both sides have it. -/
theorem Chn.use {J : IdD → Bool} {ts : List TchD} {s p : Nat} {cs : List LnkD} {zs : List IdD} (h : Chn J ts s cs p) (hz : ∀ x, FitId x → posL ts x ≠ [] → J x = true → 2 ≤ (posL ts x).length → x ∈ zs) (hfit : ∀ t ∈ ts, ∀ x ∈ t.ids, FitId x) {k : Nat} (hk : k + 1 < cs.length) :
    cs[k + 1].id ∈ zs ∧ ∃ (i j : Nat) (hi : i < ts.length) (hj : j < ts.length), (cs[k]'(by omega)).no = ts[i].no ∧ cs[k + 1].no = ts[j].no ∧ cs[k + 1].id ∈ ts[i].ids ∧ cs[k + 1].id ∈ ts[j].ids := by
  obtain ⟨i, j, hi, hj, hne, e1, e2, hJ, h1, h2⟩ := h.lnk k _ _ (List.getElem?_eq_getElem (by omega)) (List.getElem?_eq_getElem hk)
  have m1 : (i : Int) ∈ posL ts cs[k + 1].id := mem_posL.2 ⟨hi, hasId_iff.2 h1⟩
  have m2 : (j : Int) ∈ posL ts cs[k + 1].id := mem_posL.2 ⟨hj, hasId_iff.2 h2⟩
  exact ⟨hz _ (hfit _ (List.getElem_mem hi) _ h1) (fun e => by rw [e] at m1; cases m1) hJ (two_mem m1 m2 (by omega)), i, j, hi, hj, e1, e2, h1, h2⟩
theorem idx_no {ts : List TchD} (hno : ts.Pairwise fun a b => a.no < b.no) {i : Nat} (hi : i < ts.length) : idxF (fun u : TchD => decide (u.no = ts[i].no)) ts = i := by
  refine idxF_found hi ?_ (by simp)
  rw [List.any_eq_false]
  intro x hx
  obtain ⟨j, hj, rfl⟩ := List.getElem_of_mem hx
  rw [List.length_take] at hj
  rw [List.getElem_take]
  simp only [decide_eq_true_eq]
  intro e
  have := no_inj hno (by omega) hi e
  omega
theorem tied_tog {r : RulD} {ts : List TchD} {ps : List PerD} {rr : List Nat} (hu : Uf (Share (JD r ts) ts) rr) (hq : PersQ (JD r ts) ts (repN rr) ps) (hno : ts.Pairwise fun a b => a.no < b.no) {i j : Nat} (hi : i < ts.length) (hj : j < ts.length) : anyF (togB ts[i].no ts[j].no) ps = true ↔ Tied (Share (JD r ts) ts) i j :=
  (tog_iff hq (fun i => repN_le rr i) (fun i => repN_idem hu.dn i) hno hi hj).trans (hu.iff i j)
end Go.Proofs.YtbidhpgjmcedaaaGreatDoor

/- IndexFunc and ContainsFunc at elements of 5 cells. -/
namespace Go.Proofs.YtbidhpgjmcedaaaGreatDoor
set_option linter.unusedVariables false
open Go.RowKit

section
variable {D : Type}
set_option maxHeartbeats 1000000 in
theorem indexFunc_Tch (H : Frz) (f : D → Nat → Value) (kf : Nat) (caps : List Value) (p : D → Bool) (ds : List D) (hp : ∀ (W : World) (d : D), d ∈ ds → H.In W → Calls Tryz.prog kf ((.agg #[f d 0, f d 1, f d 2, f d 3, f d 4] : Value) :: caps).toArray W fun e W' => e = .returned (.bool (p d)) ∧ Below W.heap.size W W')
    (hcall : ∀ (a : Value) (W : World), (callFunc kf (a :: caps).toArray).run Tryz.prog W = .ok (.enter kf (a :: caps).toArray) W)
    (A : Option Addr) (cap : Nat) (w : World) (hH : H.In w) (hR : Rw H A 5 f ds) (hl : ds.length ≤ 1000000) :
    Calls Tryz.prog 55 #[.slice A ds.length cap, .func (.func kf) #[] caps.toArray] w fun e w' => e = .returned (.int .i64 (idxF p ds)) ∧ Below w.heap.size w w' := by
  have HP := Lib.hid hp
  have HR := Lib.hid hR
  have HH := Lib.hid hH
  clear hp hR hH
  go_enter Tryz.func55, Tryz.ntmps55
  go_wp2_with fail
  go_loopw [5, 8] (fun _ t wr => ∃ i : Nat, i ≤ ds.length ∧ t = .int .i64 i ∧ Hid ((ds.take i).any p = false) ∧ Hid (Below w.heap.size w wr)) (fun _ t _ => ds.length - (intOf t).toNat)
  case atStart => exact ⟨0, by omega, rfl, rfl, Below.refl _ _⟩
  case round =>
    obtain ⟨i, hi, rfl, hall, hb⟩ := hrel
    by_cases hlt : i < ds.length
    · obtain ⟨b, off, rfl, hbl, hc⟩ := HR.out.at_ (HH.out.below hb.out) hlt (by omega)
      have c0 : wr.cell? ⟨b, off + i * 5, none⟩ = some (f ds[i] 0) := hc 0 (by omega)
      have c1 : wr.cell? ⟨b, off + i * 5 + 1, none⟩ = some (f ds[i] 1) := hc 1 (by omega)
      have c2 : wr.cell? ⟨b, off + i * 5 + 2, none⟩ = some (f ds[i] 2) := hc 2 (by omega)
      have c3 : wr.cell? ⟨b, off + i * 5 + 3, none⟩ = some (f ds[i] 3) := hc 3 (by omega)
      have c4 : wr.cell? ⟨b, off + i * 5 + 4, none⟩ = some (f ds[i] 4) := hc 4 (by omega)
      have HC := Lib.hid (fun W hW => HP.out W ds[i] (List.getElem_mem hlt) hW)
      have ht := Lib.hid (idxF_found (p := p) hlt hall.out)
      have ht2 := Lib.hid (any_take_succ (p := p) hlt hall.out)
      clear hc
      generalize hpd : p ds[i] = q at HC ht ht2
      generalize f ds[i] 0 = x0 at c0 HC
      generalize f ds[i] 1 = x1 at c1 HC
      generalize f ds[i] 2 = x2 at c2 HC
      generalize f ds[i] 3 = x3 at c3 HC
      generalize f ds[i] 4 = x4 at c4 HC
      clear hpd
      go_wp2_with fail
      refine (HC.out _ (HH.out.below hb.out)).mono ?_
      rintro e w1 ⟨rfl, hb1⟩
      have hb2 := Lib.hid (hb.out.trans (hb1.mono hb.out.size))
      clear hb1 hb
      cases q with
      | true =>
        go_wp2_with fail
        go_ret
        exact ⟨ret_int (ht.out (by simp)).symm, hb2.out⟩
      | false =>
        go_wp2_with fail
        go_roundw
        case rel => exact ⟨i + 1, by omega, by go_num, ht2.out (by simp), hb2⟩
        case measure => simp [intOf]; omega
    · have hf := Lib.hid (idxF_none (p := p) (show ds.any p = false by have := hall.out; rwa [List.take_of_length_le (by omega)] at this))
      go_wp2_with fail
      go_ret
      exact ⟨ret_int hf.out.symm, hb.out⟩
end
end Go.Proofs.YtbidhpgjmcedaaaGreatDoor

/- Append of a whole row that lies in memory. -/
namespace Go.Proofs.YtbidhpgjmcedaaaGreatDoor
set_option linter.unusedVariables false
open Go.RowKit
theorem run_append_none {P : Program} {w : World} (base : Nat) (t ty e : TypeId) (i : TypeInfo) (size : Nat) (ht : P.underlying t = some (.slice e)) (hi : P.info? e = some i)
    (v : Value) (n : Nat) (xs : List Value) (hown : w.ownsRow base e size v n xs) (c : Nat) :
    (Builtin.append_ #[t, t] ty #[v, .slice none 0 c]).run P w = .ok v w := by
  rcases hown.2 with ⟨rfl, rfl⟩ | ⟨g, cap, cur, rfl, _, _, hnc, _⟩
  · simp [Builtin.append_, run_underlying ht, sizeOf, typeInfo, hi, Builtin.lenOf, Builtin.firstCells]
  · simp [Builtin.append_, run_underlying ht, sizeOf, typeInfo, hi, Builtin.lenOf, Builtin.firstCells, hnc, storeCells]
/-- 'v = append(v, xs...)', v of the call's own, xs a row in memory that is laid for good. -/
theorem wpList_rows {D : Type} {P : Program} {wr : World} {ops : Array Oper} {rest : List Oper} {o : Oper} {a : Act} {Q : Exit → Act → World → Prop} (hgd : o.guard = none) (s x : Operand) (t : TypeId)
    (ho : o.op = .call { callee := .builtin .append, args := #[s, x], argTypes := #[t, t] })
    (B : Nat) (e : TypeId) (i : TypeInfo) (z : Value) (k bytes : Nat) (ht : P.underlying t = some (.slice e)) (hi : P.info? e = some i) (hz : i.zero = some z)
    (hsize : i.size = k) (hby : i.bytes = bytes) (hzs : z.cells.size = k) (hsz : 0 < k)
    (f : D → Nat → Value) (v : Value) (ds : List D) (hs : a.eval s = v) (hown : Orow wr B e k f v ds)
    (H : Frz) (hH : H.In wr) (A : Option Addr) (cap : Nat) (ds2 : List D) (hR : Rw H A k f ds2) (hx : a.eval x = .slice A ds2.length cap) (h1 : ∀ d ∈ ds2, ∀ m, (f d m).oneCell' = true)
    (hn : ds.length + ds2.length ≤ 4294967296) (hbytes : bytes ≤ 4096) (hB : B ≤ wr.heap.size)
    (h : ∀ v' w', Orow w' B e k f v' (ds ++ ds2) → wr.grownBy w' v.ownBlock → (v'.ownBlock = v.ownBlock ∨ v'.ownBlock = some wr.heap.size) → wpList P ops Q rest (a.put o.dst v') w') :
    wpList P ops Q (o :: rest) a wr := by
  cases A with
  | none =>
    have hz2 : ds2 = [] := by
      cases ds2 with
      | nil => rfl
      | cons d ds2 => obtain ⟨b, off, e, _⟩ := hR 0 (by simp); cases e
    subst hz2
    refine wpList_plain hgd fun K hK => ?_
    have hrun := run_append_none (P := P) (w := wr) B t o.type e i k ht hi v _ _ hown cap
    unfold Oper.wp
    simp only [List.length_nil] at hx
    simp [execOp, ho, resolve, invoke, builtin, hs, hx, hrun, Result.andThen]
    exact hK _ _ (h v wr (by rw [List.append_nil]; exact hown) ⟨rfl, rfl, rfl, Nat.le_refl _, fun _ _ _ => rfl⟩ (Or.inl rfl))
  | some ad =>
    refine wpList_append_own_at _ hgd s x t ho B e i z k bytes ht hi hz hsize hby hzs hsz v ds.length _ hs hown ad ds2.length cap (cellsOf k f ds2) hx (cellsOf_len _ _ _) ?_ ?_ (by simp only [maxLen]; omega) ?_ hB ?_
    · intro j u hu
      have hj : j < ds2.length * k := by have := (List.getElem?_eq_some_iff.1 hu).1; rwa [cellsOf_len] at this
      have hjk : j / k < ds2.length := (Nat.div_lt_iff_lt_mul hsz).2 hj
      obtain ⟨b, off, e, _, hc⟩ := hR.at_ hH hjk hsz
      injection e with e
      subst e
      have h2 := hc (j % k) (Nat.mod_lt _ hsz)
      have h3 := cellsOf_get k f ds2 (j / k) (j % k) hjk (Nat.mod_lt _ hsz)
      have e1 : j / k * k + j % k = j := Nat.div_add_mod' j k
      rw [e1, hu] at h3
      rw [Addr.add_lit, show off + j = off + j / k * k + j % k from by omega, h2]
      exact h3.symm
    · intro u hu
      simp only [cellsOf, List.mem_flatMap, List.mem_map] at hu
      obtain ⟨d, hd, m, _, rfl⟩ := hu
      exact h1 d hd m
    · have : (ds.length + ds2.length) * bytes ≤ 4294967296 * 4096 := Nat.mul_le_mul hn hbytes
      omega
    · intro v' w' ho' hg' _ hat
      refine h v' w' ?_ hg' hat
      show World.ownsRow _ _ _ _ _ _ _
      rw [cellsOf_split, List.length_append]
      exact ho'
end Go.Proofs.YtbidhpgjmcedaaaGreatDoor

/- slices.Compact of ints. -/
namespace Go.Proofs.YtbidhpgjmcedaaaGreatDoor
set_option linter.unusedVariables false
open Go.RowKit
theorem compact_I (B : Nat) (v : Value) (zs : List Int) (w : World) (hO : Orow w B 3 1 fI v zs) (hl : zs.length ≤ 1000000) :
    Calls Tryz.prog 201 #[v] w fun e w' => (∃ v', e = .returned v' ∧ Orow w' B 3 1 fI v' (Lib.compact zs) ∧ v'.ownBlock = v.ownBlock) ∧ w.grownBy w' v.ownBlock := by
  rcases hO.2 with ⟨rfl, hn⟩ | ⟨g, cap, cur, rfl, hB, hh, hle, hm, hs, ht⟩
  · have : zs = [] := List.eq_nil_of_length_eq_zero hn
    subst this
    refine (Tryz.slices_Compact_int_empty none 0 w).mono ?_
    rintro e w' ⟨rfl, rfl⟩
    exact ⟨⟨_, rfl, Orow.nil _ _ _ _ _, rfl⟩, ⟨rfl, rfl, rfl, Nat.le_refl _, fun k hk _ => rfl⟩⟩
  · rw [cellsOf_fI, Nat.mul_one] at ht
    have hlt : g < w.heap.size := lt_of_heap hh
    refine (Tryz.slices_Compact_int g 0 cap zs w (holds_of_blockI hh ht) (by omega) hle).mono ?_
    rintro e w' ⟨rfl, q, rfl⟩
    have hcl : (Lib.compact zs).length ≤ zs.length := Lib.compact_length_le zs
    have hzl : (Lib.compact zs ++ List.replicate (zs.length - (Lib.compact zs).length) 0).length = zs.length := by simp; omega
    have hg := grownBy_sortedI (w := w) (g := g) (n := q) (os := #[]) (Lib.compact zs ++ List.replicate (zs.length - (Lib.compact zs).length) 0).toArray
    have ho := ownsRow_sortedI (n := q) (os := #[]) hzl hB hh hle hm hs
    rw [Sort.grow_empty] at hg ho
    refine ⟨⟨_, rfl, ?_, rfl⟩, hg⟩
    rcases ho.2 with ⟨c, _⟩ | ⟨g', cap', cur', hv', hB', hh', hle', hm', hs', ht'⟩
    · cases c
    · injection hv' with e1 e2 e3
      injection e1 with e1
      injection e1 with e1
      subst e1 e3
      refine ⟨by rw [cellsOf_fI]; simp, Or.inr ⟨g, cap, cur', rfl, hB, hh', by omega, hm, hs', ?_⟩⟩
      rw [cellsOf_fI, Nat.mul_one]
      rw [Nat.mul_one] at ht'
      have : cur'.toList.take (Lib.compact zs).length = (cur'.toList.take zs.length).take (Lib.compact zs).length := by rw [List.take_take]; congr 1; omega
      rw [this, ht', List.map_append, List.take_left' (by simp)]
/-- Lib.compact keeps what is there. -/
theorem cut_mem (d : Array Int) (x : Int) : ∀ m, x ∈ Lib.compactUpTo d m ↔ ∃ j, j < m ∧ d[j]! = x
  | 0 => by simp [Lib.compactUpTo]
  | m + 1 => by
    rw [Lib.compactUpTo_succ, List.mem_append, cut_mem d x m]
    constructor
    · rintro (⟨j, hj, h⟩ | h)
      · exact ⟨j, by omega, h⟩
      · split at h
        · simp at h; exact ⟨m, by omega, h.symm⟩
        · cases h
    · rintro ⟨j, hj, h⟩
      by_cases c : j < m
      · exact Or.inl ⟨j, c, h⟩
      · have e : j = m := by omega
        subst e
        by_cases k : Lib.keeps d j = true
        · exact Or.inr (by rw [if_pos k]; simp [h])
        · by_cases h0 : 0 < j
          · by_cases h1 : d[j]! = d[j - 1]!
            · exact Or.inl ⟨j - 1, by omega, by rw [← h1]; exact h⟩
            · exact absurd (Lib.keeps_pos h1) k
          · have e0 : j = 0 := by omega
            subst e0
            exact absurd (Lib.keeps_lt_one d 0 (by omega)) k
theorem compact_mem (l : List Int) (m : Int) : m ∈ Lib.compact l ↔ m ∈ l := by
  unfold Lib.compact
  rw [cut_mem]
  constructor
  · rintro ⟨j, hj, h⟩
    rw [getElem!_pos l.toArray j (by simpa using hj)] at h
    rw [← h]; simp
  · intro h
    obtain ⟨j, hj, h⟩ := List.mem_iff_getElem.1 h
    exact ⟨j, hj, by rw [getElem!_pos l.toArray j (by simpa using hj)]; simpa using h⟩
end Go.Proofs.YtbidhpgjmcedaaaGreatDoor
