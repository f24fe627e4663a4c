/- Texts of this claim, put together: Add, NewX. -/
import Derived.Test.YtbidhpgjmcedaaaGreatDoorGBZ
import Derived.Test.YtbidhpgjmcedaaaGreatDoorGBX
import Derived.Test.YtbidhpgjmcedaaaGreatDoorGAP
import Derived.Test.YtbidhpgjmcedaaaGreatDoorGAI
import Derived.Test.YtbidhpgjmcedaaaGreatDoorGAE
import Derived.Test.YtbidhpgjmcedaaaGreatDoorGCA
import Derived.Test.YtbidhpgjmcedaaaGreatDoorGBG
import Derived.Test.YtbidhpgjmcedaaaGreatDoorGBH
import Derived.Test.YtbidhpgjmcedaaaGreatDoorGAS
namespace Go.Proofs.YtbidhpgjmcedaaaGreatDoor
set_option linter.unusedVariables false
open Go.RowKit
theorem getD_off {L : Array Bool} {k : Nat} (h : L.getD k true = false) : L.getD k false = false := by
 rw [Array.getD_eq_getD_getElem?] at h ⊢
 cases e : L[k]? with
 | none => rfl
 | some x => rw [e] at h; exact h
def CpOk (B : Nat) (t : TchD) (w : World) (u : TchD) : Prop := bare u = bare t ∧ Orow w B 55 2 fId (.slice u.ia u.ids.length u.ic) u.ids ∧ Orow w B 78 4 fFd (.slice u.fa u.fields.length u.fc) u.fields
theorem CpOk.below {B : Nat} {t u : TchD} {w w' : World} (h : CpOk B t w u) (hb : Below w.heap.size w w') : CpOk B t w' u := ⟨h.1, h.2.1.below hb, h.2.2.below hb⟩
structure AddJ (W0 : World) (us : List TchD) (t : TchD) (i : Nat) (L : Array Bool) (a : Act) (w : World) : Prop where
 bel : Below W0.heap.size W0 w
 l : L.getD 10 false = true → L.getD 5 false = true ∧ L.getD 9 false = true
 l9 : L.getD 9 false = true → L.getD 8 false = true
 c : L.getD 10 false = false → L.getD 5 false = true → Orow w W0.heap.size 53 5 fTch (a.tmps.getD 38 undef) us
 q : L.getD 10 false = false → L.getD 9 false = true → ∃ u q, a.tmps.getD 42 undef = .slice (some ⟨q, 0, none⟩) 1 1 ∧ w.heap[q]? = some (.cells #[.int .i64 u.no, .int .i64 u.at_, .string u.source, .slice u.ia u.ids.length u.ic, .slice u.fa u.fields.length u.fc] 53 (0, 0)) ∧ W0.heap.size ≤ q ∧ CpOk W0.heap.size t w u
 u : L.getD 9 false = false → L.getD 8 false = true → ∃ u, a.tmps.getD 41 undef = .agg #[.int .i64 u.no, .int .i64 u.at_, .string u.source, .slice u.ia u.ids.length u.ic, .slice u.fa u.fields.length u.fc] ∧ CpOk W0.heap.size t w u
 d : L.getD 10 false = true → ∃ u, Orow w W0.heap.size 53 5 fTch (a.tmps.getD 43 undef) (us.take i ++ u :: us.drop i) ∧ CpOk W0.heap.size t w u
section
variable {W0 w w' : World} {us : List TchD} {t : TchD} {i : Nat} {L : Array Bool} {a : Act}
theorem AddJ.start (a : Act) (m : Nat) : AddJ W0 us t i (Array.replicate m false) a W0.drew := by
 have h : ∀ k, (Array.replicate m false).getD k false = true → False := fun k e => by rw [getD_rep] at e; cases e
 exact ⟨⟨rfl, rfl, rfl, Nat.le_refl _, fun _ _ => rfl⟩, fun e => (h _ e).elim, fun e => (h _ e).elim, fun _ e => (h _ e).elim, fun _ e => (h _ e).elim, fun _ e => (h _ e).elim, fun e => (h _ e).elim⟩
theorem AddJ.step (h : AddJ W0 us t i L a w) (hb : Below w.heap.size w w') {k d : Nat} (h5 : k ≠ 5) (h8 : k ≠ 8) (h9 : k ≠ 9) (h10 : k ≠ 10) (d1 : d ≠ 38) (d2 : d ≠ 41) (d3 : d ≠ 42) (d4 : d ≠ 43) (v : Value) : AddJ W0 us t i (L.setIfInBounds k true) (a.put (some d) v) w' := by
 refine ⟨h.bel.trans (hb.mono h.bel.size), ?_, ?_, ?_, ?_, ?_, ?_⟩
 ·rw [getD_set_ne false h10, getD_set_ne false h5, getD_set_ne false h9]; exact h.l
 ·rw [getD_set_ne false h9, getD_set_ne false h8]; exact h.l9
 ·rw [getD_set_ne false h10, getD_set_ne false h5, put_ne d1]; exact fun e1 e2 => (h.c e1 e2).below hb
 ·rw [getD_set_ne false h10, getD_set_ne false h9, put_ne d3]
  intro e1 e2
  obtain ⟨u, q, e3, e4, e5, e6⟩ := h.q e1 e2
  exact ⟨u, q, e3, (hb.block q (lt_of_heap e4)).trans e4, e5, e6.below hb⟩
 ·rw [getD_set_ne false h9, getD_set_ne false h8, put_ne d2]
  intro e1 e2
  obtain ⟨u, e3, e4⟩ := h.u e1 e2
  exact ⟨u, e3, e4.below hb⟩
 ·rw [getD_set_ne false h10, put_ne d4]
  intro e1
  obtain ⟨u, e3, e4⟩ := h.d e1
  exact ⟨u, e3.below hb, e4.below hb⟩
theorem AddJ.off10 (h : AddJ W0 us t i L a w) (h9 : L.getD 9 false = false ∨ L.getD 5 false = false) : L.getD 10 false = false := by
 cases e : L.getD 10 false with
 | false => rfl
 | true =>
  obtain ⟨e1, e2⟩ := h.l e
  rcases h9 with h9 | h9
  ·rw [h9] at e2; cases e2
  ·rw [h9] at e1; cases e1
theorem AddJ.clone (h : AddJ W0 us t i L a w) (hb : Below w.heap.size w w') (h0 : L.getD 5 false = false) (hz : 38 < a.tmps.size) (v : Value) (ho : Orow w' W0.heap.size 53 5 fTch v us) : AddJ W0 us t i (L.setIfInBounds 5 true) (a.put (some 38) v) w' := by
 have hoff := h.off10 (Or.inr h0)
 refine ⟨h.bel.trans (hb.mono h.bel.size), ?_, ?_, ?_, ?_, ?_, ?_⟩
 ·rw [getD_set_ne false (by decide)]; intro e; rw [hoff] at e; cases e
 ·rw [getD_set_ne false (by decide), getD_set_ne false (by decide)]; exact h.l9
 ·intro _ _; rw [put_eq hz]; exact ho
 ·rw [getD_set_ne false (by decide), getD_set_ne false (by decide), put_ne (by decide)]
  intro e1 e2
  obtain ⟨u, q, e3, e4, e5, e6⟩ := h.q e1 e2
  exact ⟨u, q, e3, (hb.block q (lt_of_heap e4)).trans e4, e5, e6.below hb⟩
 ·rw [getD_set_ne false (by decide), getD_set_ne false (by decide), put_ne (by decide)]
  intro e1 e2
  obtain ⟨u, e3, e4⟩ := h.u e1 e2
  exact ⟨u, e3, e4.below hb⟩
 ·rw [getD_set_ne false (by decide)]; intro e; rw [hoff] at e; cases e
theorem AddJ.copy (h : AddJ W0 us t i L a w) (hb : Below w.heap.size w w') (h0 : L.getD 8 false = false) (hz : 41 < a.tmps.size) (u : TchD) (ho : CpOk W0.heap.size t w' u) : AddJ W0 us t i (L.setIfInBounds 8 true) (a.put (some 41) (.agg #[.int .i64 u.no, .int .i64 u.at_, .string u.source, .slice u.ia u.ids.length u.ic, .slice u.fa u.fields.length u.fc])) w' := by
 have h9 : L.getD 9 false = false := by
  cases e : L.getD 9 false with
  | false => rfl
  | true => rw [h.l9 e] at h0; cases h0
 have hoff := h.off10 (Or.inl h9)
 refine ⟨h.bel.trans (hb.mono h.bel.size), ?_, ?_, ?_, ?_, ?_, ?_⟩
 ·rw [getD_set_ne false (by decide)]; intro e; rw [hoff] at e; cases e
 ·rw [getD_set_ne false (by decide)]; intro e; rw [h9] at e; cases e
 ·rw [getD_set_ne false (by decide), getD_set_ne false (by decide), put_ne (by decide)]; exact fun e1 e2 => (h.c e1 e2).below hb
 ·rw [getD_set_ne false (by decide), getD_set_ne false (by decide)]; intro _ e; rw [h9] at e; cases e
 ·intro _ _; exact ⟨u, put_eq hz _, ho⟩
 ·rw [getD_set_ne false (by decide)]; intro e; rw [hoff] at e; cases e
theorem AddJ.one (h : AddJ W0 us t i L a w) (h0 : L.getD 9 false = false) (h8 : L.getD 8 false = true) (hz : 42 < a.tmps.size) (u : TchD) (ho : CpOk W0.heap.size t w u) : AddJ W0 us t i (L.setIfInBounds 9 true) (a.put (some 42) (.slice (some ⟨w.heap.size, 0, none⟩) 1 1)) (w.alloc (.cells #[.int .i64 u.no, .int .i64 u.at_, .string u.source, .slice u.ia u.ids.length u.ic, .slice u.fa u.fields.length u.fc] 53)) := by
 have hoff := h.off10 (Or.inl h0)
 have hb := new1 (w := w) (.cells #[.int .i64 u.no, .int .i64 u.at_, .string u.source, .slice u.ia u.ids.length u.ic, .slice u.fa u.fields.length u.fc] 53)
 refine ⟨h.bel.trans (hb.mono h.bel.size), ?_, ?_, ?_, ?_, ?_, ?_⟩
 ·rw [getD_set_ne false (by decide)]; intro e; rw [hoff] at e; cases e
 ·intro _; exact getD_set_true h8
 ·rw [getD_set_ne false (by decide), getD_set_ne false (by decide), put_ne (by decide)]; exact fun e1 e2 => (h.c e1 e2).below hb
 ·intro _ _; exact ⟨u, w.heap.size, put_eq hz _, heap_alloc_new _ _, h.bel.size, ho.below hb⟩
 ·intro e1 e2
  by_cases hs : 9 < L.size
  ·rw [Array.getD_eq_getD_getElem?, Array.getElem?_setIfInBounds, if_pos rfl, if_pos hs] at e1
   cases e1
  ·rw [getD_set_ne false (by decide)] at e2
   have : L.getD 9 false = false := h0
   obtain ⟨u', e3, e4⟩ := h.u h0 e2
   exact ⟨u', by rw [put_ne (by decide)]; exact e3, e4.below hb⟩
 ·rw [getD_set_ne false (by decide)]; intro e; rw [hoff] at e; cases e
theorem AddJ.ins (h : AddJ W0 us t i L a w) (hL : L.size = 14) (h5 : L.getD 5 false = true) (h9 : L.getD 9 false = true) (hz : 43 < a.tmps.size) {v v' : Value} {u : TchD} (hv : Orow w W0.heap.size 53 5 fTch v us) (hu : CpOk W0.heap.size t w u) (ho : Orow w' W0.heap.size 53 5 fTch v' (us.take i ++ u :: us.drop i)) (hg : w.grownBy w' v.ownBlock) : AddJ W0 us t i (L.setIfInBounds 10 true) (a.put (some 43) v') w' := by
 have h8 := h.l9 h9
 have hon : (L.setIfInBounds 10 true).getD 10 false = true := by
  rw [Array.getD_eq_getD_getElem?, Array.getElem?_setIfInBounds, if_pos rfl, if_pos (by omega)]
  rfl
 have hu2 : CpOk W0.heap.size t w' u := by
  refine ⟨hu.1, ?_, ?_⟩
  ·cases e : v.ownBlock with
   | none => rw [e] at hg; exact hu.2.1.kept hg (by cases (Value.slice u.ia u.ids.length u.ic).ownBlock <;> simp)
   | some g => rw [e] at hg; exact hu.2.1.kept hg (Or.inr (Orow.apartT (by decide) hu.2.1 hv e))
  ·cases e : v.ownBlock with
   | none => rw [e] at hg; exact hu.2.2.kept hg (by cases (Value.slice u.fa u.fields.length u.fc).ownBlock <;> simp)
   | some g => rw [e] at hg; exact hu.2.2.kept hg (Or.inr (Orow.apartT (by decide) hu.2.2 hv e))
 refine ⟨Below.mk9 h.bel hg (fun g e => (hv.lt e).1), ?_, ?_, ?_, ?_, ?_, ?_⟩
 ·intro _; exact ⟨getD_set_true h5, getD_set_true h9⟩
 ·intro _; exact getD_set_true h8
 ·intro e; rw [hon] at e; cases e
 ·intro e; rw [hon] at e; cases e
 ·rw [getD_set_ne false (by decide)]; intro e; rw [h9] at e; cases e
 ·intro _; rw [put_eq hz]; exact ⟨u, ho, hu2⟩
end
def φAd (xb : Nat) (A : Option Addr) (n cap i : Nat) (t : TchD) (k : Nat) (v : Value) (_ : World) : Prop :=
 match k with
 | 0 => v = .pointer (some ⟨xb, 0, none⟩)
 | 1 => v = .pointer (some ⟨xb, 0, none⟩)
 | 2 => v = .pointer (some ⟨xb, 0, none⟩)
 | 3 => v = .pointer (some ⟨xb, 4, none⟩)
 | 4 => v = .slice A n cap
 | 5 => True
 | 6 => v = .int .i64 i
 | 7 => v = .agg #[.int .i64 t.no, .int .i64 t.at_, .string t.source, .slice t.ia t.ids.length t.ic, .slice t.fa t.fields.length t.fc]
 | _ => True
set_option maxHeartbeats 8000000 in
set_option maxRecDepth 100000 in
theorem add_any (H : Frz) (hU : UtfIn H) (hM : MLen H) (xb : Nat) (r : RulD) (A : Option Addr) (cap : Nat) (us : List TchD) (Ap : Option Addr) (cp : Nat) (ps : List PerD) (t : TchD) (w : World) (hH : H.In w) (hx : H xb = none) (ho : w.heap[xb]? = some (.cells (idxCells r (.slice A us.length cap) (.slice Ap ps.length cp)) 171 (0, 0)))
  (hR : RulIn H r) (hr : RightR r) (hT : TchIn H A us) (hP : PerIn H Ap ps) (hps : PsOk ps) (hl : us.length < 100) (hus : ∀ u ∈ us, RightT u) (hil : ∀ u ∈ us, u.ids.length ≤ 10 ∧ u.fields.length ≤ 1000) (ht : RightT t) (hte : tchE okT t 0 = 0) (hti : TcIn H t) (i : Nat) (hi : i ≤ us.length) (hlo : ∀ q (h : q < us.length), q < i → us[q].no < t.no) (hhi : ∀ q (h : q < us.length), i ≤ q → t.no < us[q].no) :
  Calls Tryz.prog 46 #[.pointer (some ⟨xb, 0, none⟩), .agg #[.int .i64 t.no, .int .i64 t.at_, .string t.source, .slice t.ia t.ids.length t.ic, .slice t.fa t.fields.length t.fc]] w (ChgPost r xb (us.take i ++ t :: us.drop i) H w) := by
 have z0 : (w.alloc (.cells #[.int .i64 t.no, .int .i64 t.at_, .string t.source, .slice t.ia t.ids.length t.ic, .slice t.fa t.fields.length t.fc] 53)).cell? ⟨w.heap.size, 0, none⟩ = some (.int .i64 t.no) := newc 0 rfl
 have z1 : (w.alloc (.cells #[.int .i64 t.no, .int .i64 t.at_, .string t.source, .slice t.ia t.ids.length t.ic, .slice t.fa t.fields.length t.fc] 53)).cell? ⟨w.heap.size, 1, none⟩ = some (.int .i64 t.at_) := newc 1 rfl
 have z2 : (w.alloc (.cells #[.int .i64 t.no, .int .i64 t.at_, .string t.source, .slice t.ia t.ids.length t.ic, .slice t.fa t.fields.length t.fc] 53)).cell? ⟨w.heap.size, 2, none⟩ = some (.string t.source) := newc 2 rfl
 have z3 : (w.alloc (.cells #[.int .i64 t.no, .int .i64 t.at_, .string t.source, .slice t.ia t.ids.length t.ic, .slice t.fa t.fields.length t.fc] 53)).cell? ⟨w.heap.size, 3, none⟩ = some (.slice t.ia t.ids.length t.ic) := newc 3 rfl
 have z4 : (w.alloc (.cells #[.int .i64 t.no, .int .i64 t.at_, .string t.source, .slice t.ia t.ids.length t.ic, .slice t.fa t.fields.length t.fc] 53)).cell? ⟨w.heap.size, 4, none⟩ = some (.slice t.fa t.fields.length t.fc) := newc 4 rfl
 have HBN := Lib.hid (new1 (w := w) (.cells #[.int .i64 t.no, .int .i64 t.at_, .string t.source, .slice t.ia t.ids.length t.ic, .slice t.fa t.fields.length t.fc] 53))
 have HCK := Lib.hid (fun W (hW : H.In W) => checkTouch_any H hU hM t 0 W hW hti.ids hti.fds hti.sz)
 rw [hte] at HCK
 have hne : ∀ q (h : q < us.length), us[q].no ≠ t.no := fun q h e => by
  rcases Nat.lt_or_ge q i with c | c
  ·have := hlo q h c; omega
  ·have := hhi q h c; omega
 have HNE := Lib.hid hne
 have hha : hasAt (fun u : TchD => cmpI u.no t.no) us i = false := by
  by_cases c : i < us.length
  ·rw [hasAt_lt c]
   have := hhi i c (Nat.le_refl _)
   unfold cmpI
   rw [if_neg (by omega), if_neg (by omega)]
   rfl
  ·exact hasAt_ge (by omega)
 have HNM := Lib.hid (fun W (hW : H.In W) => numbered_any H A cap us t.no W hW hT.1 (by omega) i hi hlo (fun q h1 h2 => by have := hhi q h1 h2; omega))
 rw [hha] at HNM
 have HCL := Lib.hid (fun W (hW : H.In W) => clone_Tch H fTch us (fun d _ m => by match m with | 0 => rfl | 1 => rfl | 2 => rfl | 3 => rfl | _ + 4 => rfl) A cap W hW hT.1 (by omega))
 have HCT := Lib.hid (fun W (hW : H.In W) => copyTch_any H t W hW hti.ids hti.fds (by have := hti.il; omega) (by have := hti.fl; omega))
 have HH := Lib.hid hH
 have HX := Lib.hid hx
 have HO := Lib.hid ho
 have HRI := Lib.hid hR
 have HRR := Lib.hid hr
 have HTI := Lib.hid hT
 have HPI := Lib.hid hP
 have HPO := Lib.hid hps
 have HUS := Lib.hid hus
 have HRT := Lib.hid ht
 have HXL : Hid (xb < w.heap.size) := lt_of_heap ho
 have HPP : Hid (∀ (w' : World) (A6 : Option Addr) (n6 c6 : Nat) (A : Option Addr) (cap : Nat) (vs : List TchD) (Ap : Option Addr) (cp : Nat) (ps : List PerD) (rr : List Nat), vs.map bare = (us.take i ++ t :: us.drop i).map bare → w'.heap[xb]? = some (.cells (idxCells r (.slice A vs.length cap) (.slice Ap ps.length cp)) 171 (0, 0)) →
  TchIn (H.all w' w.heap.size) A vs → PerIn (H.all w' w.heap.size) Ap ps → Uf (Share (JD r vs) vs) rr → PersQ (JD r vs) vs (repN rr) ps → w.grownBy w' (some xb) → ChgPost r xb (us.take i ++ t :: us.drop i) H w (.returned (.tuple #[.slice A6 n6 c6, .int .i64 0])) w') := fun w' A6 n6 c6 A cap vs Ap cp ps rr h1 h2 h3 h4 h5 h6 h7 => ⟨A6, n6, c6, A, cap, vs, Ap, cp, ps, rr, rfl, h1, h2, h3, h4, h5, h6, h7⟩
 have HIN := Lib.hid (hH.below HBN.out)
 have HTB := Lib.hid (heap_alloc_new w (.cells #[.int .i64 t.no, .int .i64 t.at_, .string t.source, .slice t.ia t.ids.length t.ic, .slice t.fa t.fields.length t.fc] 53))
 have x4 := lift_cell (cell_h ho 4 (v := .slice A us.length cap) rfl) _ HBN.out
 clear hU hM hH hx ho hR hr hT hP hps hus hil ht hte hti hlo hhi hne hha
 go_enter Tryz.func46, Tryz.ntmps46
 go_upto_region 1 with (fail)
 generalize w.alloc (.cells #[.int .i64 t.no, .int .i64 t.at_, .string t.source, .slice t.ia t.ids.length t.ic, .slice t.fa t.fields.length t.fc] 53) = W1 at *
 obtain ⟨tb, htb⟩ : ∃ tb, tb = w.heap.size := ⟨_, rfl⟩
 rw [← htb] at HTB ⊢
 simp only [← htb] at z0 z1 z2 z3 z4
 clear htb
 go_wp2_with fail
 refine (HCK.out W1 HIN.out).mono ?_
 rintro e W2 ⟨rfl, hb2⟩
 have HB2 := Lib.hid (HBN.out.trans (hb2.mono HBN.out.size))
 have HTB2 := Lib.hid ((hb2.block tb (lt_of_heap HTB.out)).trans HTB.out)
 have K0 := lift_cell (lift_cell x4 _ hb2)
 have K1 := lift_cell (lift_cell z0 _ hb2)
 have hin := fun W (hW : Below W2.heap.size W2 W) => HH.out.below (HB2.out.trans (hW.mono HB2.out.size))
 clear hb2 z0 z1 z2 z3 z4 x4 HCK HBN HTB HIN
 go_upto_region 4 with (fail)
 (refine wp_region_det 11 45 (fun W => Below (W2).heap.size (W2) W) (by kernel_rfl) (by kernel_rfl) (by rfl) (Below.refl _ _).drew ?_; simp only [List.take_succ_cons, List.take_zero, List.drop_succ_cons, List.drop_zero])
 iterate 6 (refine detSeq_op rfl ?_ (fun W hW => ?_) ?_; rotate_left; (focus simp only [OpV]; go_simp; first | exact rfl | exact ⟨rfl, hW⟩))
 (refine detSeq_op rfl ?_ (fun W hW => ?_) ?_; rotate_left; focus (simp only [OpV]; go_simp; refine (HNM.out W (hin W hW)).mono ?_; rintro e w' ⟨rfl, hb⟩; refine ⟨_, rfl, ?_, det_back hW hb⟩; exact rfl))
 iterate 4 (refine detSeq_op rfl ?_ (fun W hW => ?_) ?_; rotate_left; (focus simp only [OpV]; go_simp; first | exact rfl | exact ⟨rfl, hW⟩))
 refine detSeq_nil (fun W3 hW3 => ?_)
 have HB3 := Lib.hid (HB2.out.trans (hW3.mono HB2.out.size))
 have HTB3 := Lib.hid ((hW3.block tb (lt_of_heap HTB2.out)).trans HTB2.out)
 have x4 := K0 W3 hW3
 have hl20 : decide ((2000 : Int) ≤ (us.length : Int)) = false := by simp; omega
 clear K0 K1 hin hW3 HNM HB2 HTB2
 go_upto_region 9 with (fail)
 clear x4 hl20
 have HO3 := Lib.hid ((HB3.out.block xb HXL.out).trans HO.out)
 have HIN3 := Lib.hid (HH.out.below HB3.out)
 refine wp_region_concV 11 45 (φAd xb A us.length cap i t) (fun L a W => AddJ W3 us t i L a W) (fun _ _ => True) (by kernel_rfl) (by kernel_rfl) (by rfl) (AddJ.start _ _) (fun i x w w' _ _ h => h) (fun i x w hi e h => ?_) ?_ ?_
 ·have hcs : i = 0 ∨ i = 1 ∨ i = 2 ∨ i = 3 ∨ i = 4 ∨ i = 5 ∨ i = 6 ∨ i = 7 ∨ i = 8 ∨ i = 9 ∨ i = 10 := by omega
  rcases hcs with rfl | rfl | rfl | rfl | rfl | rfl | rfl | rfl | rfl | rfl | rfl <;> exact absurd e (by decide)
 ·intro n o hn ho a W5 L hrd hsN hLs hJ hkn
  replace hsN : a.tmps.size = 45 := hsN
  replace hLs : L.size = 14 := hLs
  have hcs : n = 0 ∨ n = 1 ∨ n = 2 ∨ n = 3 ∨ n = 4 ∨ n = 5 ∨ n = 6 ∨ n = 7 ∨ n = 8 ∨ n = 9 ∨ n = 10 := by omega
  have hin : H.In W5 := HIN3.out.below hJ.bel
  have hsz := hJ.bel.size
  rcases hcs with rfl | rfl | rfl | rfl | rfl | rfl | rfl | rfl | rfl | rfl | rfl
  ·obtain rfl := Option.some.inj ho
   have h1 := slotA_of (hkn 0 (by decide) : a.tmps.getD 0 undef = .pointer (some ⟨xb, 0, none⟩))
   clear hkn ho
   simp only [OpV, execOp]
   simp [go_sem, h1]
   exact ⟨rfl, hJ.step (Below.refl _ _) (by decide) (by decide) (by decide) (by decide) (by decide) (by decide) (by decide) (by decide) _⟩
  ·obtain rfl := Option.some.inj ho
   have h1 := slotA_of (hkn 0 (by decide) : a.tmps.getD 0 undef = .pointer (some ⟨xb, 0, none⟩))
   clear hkn ho
   simp only [OpV, execOp]
   simp [go_sem, h1]
   exact ⟨rfl, hJ.step (Below.refl _ _) (by decide) (by decide) (by decide) (by decide) (by decide) (by decide) (by decide) (by decide) _⟩
  ·obtain rfl := Option.some.inj ho
   have h1 := slotA_of (hkn 34 (by decide) : a.tmps.getD 34 undef = .pointer (some ⟨xb, 0, none⟩))
   clear hkn ho
   simp only [OpV, execOp]
   simp [go_sem, h1]
   exact ⟨rfl, hJ.step (Below.refl _ _) (by decide) (by decide) (by decide) (by decide) (by decide) (by decide) (by decide) (by decide) _⟩
  ·obtain rfl := Option.some.inj ho
   have h1 := slotA_of (hkn 35 (by decide) : a.tmps.getD 35 undef = .pointer (some ⟨xb, 0, none⟩))
   clear hkn ho
   simp only [OpV, execOp]
   simp [go_sem, h1]
   exact ⟨rfl, hJ.step (Below.refl _ _) (by decide) (by decide) (by decide) (by decide) (by decide) (by decide) (by decide) (by decide) _⟩
  ·obtain rfl := Option.some.inj ho
   have h1 := slotA_of (hkn 36 (by decide) : a.tmps.getD 36 undef = .pointer (some ⟨xb, 4, none⟩))
   have c4 := cell_h ((hJ.bel.block xb (lt_of_heap HO3.out)).trans HO3.out) 4 (v := .slice A us.length cap) rfl
   clear hkn ho
   simp only [OpV, execOp]
   simp [go_sem, h1, c4]
   exact ⟨rfl, hJ.step (Below.refl _ _) (by decide) (by decide) (by decide) (by decide) (by decide) (by decide) (by decide) (by decide) _⟩
  ·obtain rfl := Option.some.inj ho
   have hoff := getD_off (mem_ready.1 hrd).1
   have h1 := slotA_of (hkn 37 (by decide) : a.tmps.getD 37 undef = .slice A us.length cap)
   clear hkn ho
   simp only [OpV, execOp]
   simp [go_sem, h1]
   exact (HCL.out W5 hin).mono fun e w'' ⟨⟨v, he, ho⟩, hb⟩ => ⟨v, he, trivial, hJ.clone hb hoff (by omega) v (ho.mono hsz)⟩
  ·obtain rfl := Option.some.inj ho
   have h1 := slotA_of (hkn 7 (by decide) : a.tmps.getD 7 undef = .int .i64 i)
   clear hkn ho
   simp only [OpV, execOp]
   simp [go_sem, h1]
   exact ⟨rfl, hJ.step (Below.refl _ _) (by decide) (by decide) (by decide) (by decide) (by decide) (by decide) (by decide) (by decide) _⟩
  ·obtain rfl := Option.some.inj ho
   have h1 := slotA_of (hkn 3 (by decide) : a.tmps.getD 3 undef = .pointer (some ⟨tb, 0, none⟩))
   have hq := (hJ.bel.block tb (lt_of_heap HTB3.out)).trans HTB3.out
   have c0 := cell_h hq 0 (v := .int .i64 t.no) rfl
   have c1 := cell_h hq 1 (v := .int .i64 t.at_) rfl
   have c2 := cell_h hq 2 (v := .string t.source) rfl
   have c3 := cell_h hq 3 (v := .slice t.ia t.ids.length t.ic) rfl
   have c4 := cell_h hq 4 (v := .slice t.fa t.fields.length t.fc) rfl
   clear hkn ho hq
   simp only [OpV, execOp]
   simp [go_sem, h1, c0, c1, c2, c3, c4]
   exact ⟨rfl, hJ.step (Below.refl _ _) (by decide) (by decide) (by decide) (by decide) (by decide) (by decide) (by decide) (by decide) _⟩
  ·obtain rfl := Option.some.inj ho
   have hoff := getD_off (mem_ready.1 hrd).1
   have h1 := slotA_of (hkn 40 (by decide) : a.tmps.getD 40 undef = .agg #[.int .i64 t.no, .int .i64 t.at_, .string t.source, .slice t.ia t.ids.length t.ic, .slice t.fa t.fields.length t.fc])
   clear hkn ho
   simp only [OpV, execOp]
   simp [go_sem, h1]
   refine (HCT.out W5 hin).mono ?_
   rintro e w'' ⟨va, vb, he, oa, ob, hb⟩
   obtain ⟨aA, aC, ha, -⟩ := oa.slice
   obtain ⟨bA, bC, hb', -⟩ := ob.slice
   subst ha hb'
   exact ⟨_, he, trivial, hJ.copy hb hoff (by omega) { t with ia := aA, ic := aC, fa := bA, fc := bC } ⟨rfl, oa.mono hsz, ob.mono hsz⟩⟩
  ·obtain rfl := Option.some.inj ho
   have hoff := getD_off (mem_ready.1 hrd).1
   have h8 : L.getD 8 false = true := by
    obtain ⟨_, o', ho', hall⟩ := mem_ready.1 hrd
    obtain rfl := Option.some.inj ho'
    exact hall { on := 8, ground := Ground.data } (by simp) rfl
   obtain ⟨u, hu1, hu2⟩ := hJ.u hoff h8
   have h1 := slotA_of hu1
   clear hkn ho hu1
   simp only [OpV, execOp]
   simp [go_sem, h1]
   exact ⟨trivial, hJ.one hoff h8 (by omega) u hu2⟩
  ·obtain rfl := Option.some.inj ho
   have hoff := getD_off (mem_ready.1 hrd).1
   have h5 : L.getD 5 false = true := by
    obtain ⟨_, o', ho', hall⟩ := mem_ready.1 hrd
    obtain rfl := Option.some.inj ho'
    exact hall { on := 5, ground := Ground.data } (by simp) rfl
   have h9 : L.getD 9 false = true := by
    obtain ⟨_, o', ho', hall⟩ := mem_ready.1 hrd
    obtain rfl := Option.some.inj ho'
    exact hall { on := 9, ground := Ground.data } (by simp) rfl
   have hv := hJ.c hoff h5
   obtain ⟨u, q, hq1, hq2, hq3, hu⟩ := hJ.q hoff h9
   obtain ⟨vA, vC, hv2, -⟩ := hv.slice
   have h1 := slotA_of hv2
   have h2 := slotA_of (hkn 39 (by decide) : a.tmps.getD 39 undef = .int .i64 i)
   have h3 := slotA_of hq1
   rw [hv2] at hv
   have hqv : i < us.length → (Value.slice vA us.length vC).ownBlock ≠ some q := fun hlt e => by
    obtain ⟨g, c9, rest, hv3, -, -, -, -, hk, -⟩ := hv.form (by intro c; subst c; simp at hlt)
    rw [hv3] at e
    injection e with e
    subst e
    have c1 := hk.cell 0 0 (by omega) (by omega)
    have c2 := cell_h hq2 0 (v := .int .i64 u.no) rfl
    simp only [Nat.zero_mul, Nat.add_zero] at c1
    rw [c2] at c1
    have e3 : u.no = us[0].no := by
     have := Option.some.inj c1
     injection this
    have e4 : u.no = t.no := (congrArg TchD.no hu.1 : (bare u).no = (bare t).no)
    exact HNE.out 0 (by omega) (e3.symm.trans e4)
   have HIC := insert_Tch W3.heap.size (.slice vA us.length vC) us u q W5 hv hsz hq2 i hi hqv (by omega)
   clear hkn ho hq1 hv2
   simp only [OpV, execOp]
   simp [go_sem, h1, h2, h3]
   refine HIC.mono ?_
   rintro e w'' ⟨v', he, ho2, hg2⟩
   exact ⟨v', he, trivial, hJ.ins hLs h5 h9 (by omega) hv hu ho2 hg2⟩
 ·intro xv Wv L9 hL9 hJ hgt hφ
  have e0 : xv 0 = .pointer (some ⟨xb, 0, none⟩) := (hφ 0 (by omega)).resolve_right (fun c => (show ¬ ((some 33 : Option Nat) = none) from nofun) c.1)
  obtain ⟨u, ho9, hu9⟩ := hJ.d (hL9 10 (by omega))
  rw [hgt 10 43 rfl] at ho9
  obtain ⟨A4, c4, e10, -, hr4⟩ := ho9.memN (n := w.heap.size) HB3.out.size
  have HB4 := Lib.hid (HB3.out.trans (hJ.bel.mono HB3.out.size))
  have HIN4 := Lib.hid (HH.out.below HB4.out)
  have hle4 : H.Le (H.all Wv w.heap.size) := Frz.le_all HH.out (Nat.le_refl _)
  have hlA0 : (newH w.heap.size Wv).Le (H.all Wv w.heap.size) := newH_all
  obtain ⟨vs, hvs⟩ : ∃ vs, vs = us.take i ++ u :: us.drop i := ⟨_, rfl⟩
  rw [← hvs] at hr4 e10
  have hbu : bare u = bare t := hu9.1
  have hbare : vs.map bare = (us.take i ++ t :: us.drop i).map bare := by rw [hvs, List.map_append, List.map_cons, hbu, List.map_append, List.map_cons]
  have hmem : ∀ y ∈ vs, y = u ∨ y ∈ us := fun y hy => by
   rw [hvs] at hy
   rcases List.mem_append.1 hy with c | c
   ·exact Or.inr (List.mem_of_mem_take c)
   ·rcases List.mem_cons.1 c with c | c
    ·exact Or.inl c
    ·exact Or.inr (List.mem_of_mem_drop c)
  have hru : RightT u := by
   have h := HRT.out
   have e1 : u.no = t.no := (congrArg TchD.no hbu : (bare u).no = (bare t).no)
   have e2 : u.at_ = t.at_ := (congrArg TchD.at_ hbu : (bare u).at_ = (bare t).at_)
   have e3 : u.source = t.source := (congrArg TchD.source hbu : (bare u).source = (bare t).source)
   have e4 : u.ids = t.ids := (congrArg TchD.ids hbu : (bare u).ids = (bare t).ids)
   exact ⟨by rw [e1]; exact h.no, by rw [e2]; exact h.at_, by rw [e3]; exact h.src, by rw [e4]; exact h.len, by rw [e4]; exact h.ids, by rw [e4]; exact h.idE⟩
  have hvl : vs.length ≤ 100 := by rw [hvs]; simp; omega
  have HT4 : Hid (TchIn (H.all Wv w.heap.size) A4 vs) := ⟨hr4.le hlA0, fun y hy => by
   rcases hmem y hy with c | c
   ·subst c
    obtain ⟨p1, q1, f1, -, r1⟩ := hu9.2.1.memN (n := w.heap.size) HB3.out.size
    obtain ⟨p2, q2, f2, -, r2⟩ := hu9.2.2.memN (n := w.heap.size) HB3.out.size
    cases f1
    cases f2
    exact ⟨r1.le hlA0, r2.le hlA0⟩
   ·exact ⟨(HTI.out.2 y c).1.le hle4, (HTI.out.2 y c).2.le hle4⟩⟩
  have HO4 := Lib.hid ((HB4.out.block xb HXL.out).trans HO.out)
  have HBC := Lib.hid (become_any (H.all Wv w.heap.size) xb r A4 c4 vs Ap cp ps (.slice A us.length cap) Wv (Frz.In.all HIN4.out _) (by rw [Frz.all_lt HXL.out]; exact HX.out) HO4.out (HRI.out.le hle4) HRR.out HT4.out ⟨HPI.out.1.le hle4, fun p hp => ⟨(HPI.out.2 p hp).1.le hle4, (HPI.out.2 p hp).2.le hle4⟩⟩ HPO.out hvl (fun y hy => by
   rcases hmem y hy with c | c
   ·subst c; exact hru
   ·exact HUS.out y c))
  have HBR := Lib.hid hbare
  simp only [List.drop_succ_cons, List.drop_zero, List.take_succ_cons, List.take_zero, putAll, Nat.reduceAdd, e0, e10]
  clear e0 e10 hφ hgt hL9 hJ ho9 hu9 hr4 hle4 hlA0 hvs hbu hbare hmem hru
  generalize xv 1 = y1
  generalize xv 2 = y2
  generalize xv 3 = y3
  generalize xv 4 = y4
  generalize xv 5 = y5
  generalize xv 6 = y6
  generalize xv 7 = y7
  generalize xv 8 = y8
  generalize xv 9 = y9
  go_wp2_with fail
  refine HBC.out.mono ?_
  rintro e W5 ⟨A6, n6, c6, Aq, cq, qs, rr, rfl, ho5, hp5, hu5, hq5, hg5⟩
  have hlA : (H.all Wv w.heap.size).Le (H.all W5 w.heap.size) := fun b o h => by
   unfold Frz.all at h ⊢
   by_cases g : b < w.heap.size
   ·rw [if_pos g] at h ⊢; exact h
   ·rw [if_neg g] at h ⊢
    exact (hg5.block b (lt_of_heap h) (by intro c; injection c with c; have := HXL.out; omega)).trans h
  have hlP : (newH Wv.heap.size W5).Le (H.all W5 w.heap.size) := fun b o h => by
   unfold newH at h
   unfold Frz.all
   by_cases g : b < Wv.heap.size
   ·rw [if_pos g] at h; cases h
   ·rw [if_neg g] at h
    rw [if_neg (by have := HB4.out.size; omega)]
    exact h
  have HF := Lib.hid (HPP.out W5 A6 n6 c6 A4 c4 vs Aq cq qs rr HBR.out ho5 ⟨HT4.out.1.le hlA, fun t ht => ⟨(HT4.out.2 t ht).1.le hlA, (HT4.out.2 t ht).2.le hlA⟩⟩ (hp5.le hlP) hu5 hq5 ⟨hg5.os.trans HB4.out.os, hg5.tape.trans HB4.out.tape, hg5.output.trans HB4.out.output, Nat.le_trans HB4.out.size hg5.size, fun k hk hne => (hg5.block k (Nat.lt_of_lt_of_le hk HB4.out.size) hne).trans (HB4.out.block k hk)⟩)
  clear ho5 hp5 hu5 hq5 hg5 hlA hlP HBC
  go_wp2_with fail
  exact bodyPost_ret (by kernel_rfl) rfl HF.out
open Go.RowKit
def exX (H : Frz) (xb : Nat) : Frz := fun b => if b = xb then none else H b
theorem exX_le (H : Frz) (xb : Nat) : (exX H xb).Le H := fun b o h => by
 unfold exX at h
 split at h
 ·cases h
 ·exact h
theorem exX_none (H : Frz) (xb : Nat) : exX H xb xb = none := by unfold exX; rw [if_pos rfl]
def NewPost (r : RulD) (w : World) (e : Ending) (w' : World) : Prop := ∃ (xb : Nat) (r' : RulD), e = .returned (.tuple #[.pointer (some ⟨xb, 0, none⟩), .int .i64 0]) ∧ w'.heap[xb]? = some (.cells (idxCells r' (.slice none 0 0) (.slice none 0 0)) 171 (0, 0)) ∧ r'.kinds = r.kinds ∧ r'.most = r.most ∧ r'.weaks = r.weaks ∧ RulIn (exX (newH w.heap.size w') xb) r' ∧ w.heap.size ≤ xb ∧ Below w.heap.size w w'
set_option maxHeartbeats 4000000 in
set_option maxRecDepth 100000 in
theorem new_any (H : Frz) (hM : MLen H) (r : RulD) (w : World) (hH : H.In w) (hR : RulIn H r) (hz : SzR r) (h0 : rulE r = 0) (lu : r.surs.length ≤ 1000000) (ls : ∀ x ∈ r.surs, x.srcs.length ≤ 1000000) :
  Calls Tryz.prog 44 #[.agg #[.slice r.ka r.kinds.length r.kc, .int .i64 r.most, .slice r.wa r.weaks.length r.wc, .slice r.sa r.surs.length r.sc]] w (NewPost r w) := by
 have hrr := (rul_right h0).1
 have z0 : (w.alloc (.cells #[.slice r.ka r.kinds.length r.kc, .int .i64 r.most, .slice r.wa r.weaks.length r.wc, .slice r.sa r.surs.length r.sc] 44)).cell? ⟨w.heap.size, 0, none⟩ = some (.slice r.ka r.kinds.length r.kc) := newc 0 rfl
 have z1 : (w.alloc (.cells #[.slice r.ka r.kinds.length r.kc, .int .i64 r.most, .slice r.wa r.weaks.length r.wc, .slice r.sa r.surs.length r.sc] 44)).cell? ⟨w.heap.size, 1, none⟩ = some (.int .i64 r.most) := newc 1 rfl
 have z2 : (w.alloc (.cells #[.slice r.ka r.kinds.length r.kc, .int .i64 r.most, .slice r.wa r.weaks.length r.wc, .slice r.sa r.surs.length r.sc] 44)).cell? ⟨w.heap.size, 2, none⟩ = some (.slice r.wa r.weaks.length r.wc) := newc 2 rfl
 have z3 : (w.alloc (.cells #[.slice r.ka r.kinds.length r.kc, .int .i64 r.most, .slice r.wa r.weaks.length r.wc, .slice r.sa r.surs.length r.sc] 44)).cell? ⟨w.heap.size, 3, none⟩ = some (.slice r.sa r.surs.length r.sc) := newc 3 rfl
 have HBN := Lib.hid (new1 (w := w) (.cells #[.slice r.ka r.kinds.length r.kc, .int .i64 r.most, .slice r.wa r.weaks.length r.wc, .slice r.sa r.surs.length r.sc] 44))
 have HCK := Lib.hid (fun W (hW : H.In W) => checkRules_any H hM r W hW hR hz)
 rw [h0] at HCK
 have HCR := Lib.hid (fun W (hW : H.In W) => copyRules_any H r W hW hR (by have := hrr.kl; omega) (by have := hrr.wl; omega) lu ls)
 have HIN := Lib.hid (hH.below HBN.out)
 have HPP : Hid (∀ (xb : Nat) (r' : RulD) (w' : World), w'.heap[xb]? = some (.cells (idxCells r' (.slice none 0 0) (.slice none 0 0)) 171 (0, 0)) → r'.kinds = r.kinds → r'.most = r.most → r'.weaks = r.weaks → RulIn (exX (newH w.heap.size w') xb) r' → w.heap.size ≤ xb → Below w.heap.size w w' → NewPost r w (.returned (.tuple #[.pointer (some ⟨xb, 0, none⟩), .int .i64 0])) w') := fun xb r' w' h1 h2 h3 h4 h5 h6 h7 => ⟨xb, r', rfl, h1, h2, h3, h4, h5, h6, h7⟩
 clear hH hR hz h0 ls hrr
 go_enter Tryz.func44, Tryz.ntmps44
 go_upto_region 1 with (fail)
 generalize w.alloc (.cells #[.slice r.ka r.kinds.length r.kc, .int .i64 r.most, .slice r.wa r.weaks.length r.wc, .slice r.sa r.surs.length r.sc] 44) = W1 at *
 go_wp2_with fail
 refine (HCK.out W1 HIN.out).mono ?_
 rintro e W2 ⟨rfl, hb2⟩
 have HB2 := Lib.hid (HBN.out.trans (hb2.mono HBN.out.size))
 have HIN2 := Lib.hid (HIN.out.below hb2)
 have y0 := lift_cell z0 _ hb2
 have y1 := lift_cell z1 _ hb2
 have y2 := lift_cell z2 _ hb2
 have y3 := lift_cell z3 _ hb2
 clear hb2 z0 z1 z2 z3 HCK
 go_wp2_with fail
 refine (HCR.out W2 HIN2.out).mono ?_
 rintro e W3 ⟨r', rfl, e1, e2, e3, hri, hb3⟩
 have HB3 := Lib.hid (HB2.out.trans (hb3.mono HB2.out.size))
 have hn1 := new1 (w := W3) (.cells (idxCells r' (.slice none 0 0) (.slice none 0 0)) 171)
 have HF := Lib.hid (HPP.out W3.heap.size r' (W3.alloc (.cells (idxCells r' (.slice none 0 0) (.slice none 0 0)) 171)) (heap_alloc_new _ _) e1 e2 e3 (hri.le fun b o h => by
  unfold newH at h
  unfold exX newH
  by_cases g : b < W2.heap.size
  ·rw [if_pos g] at h; cases h
  ·rw [if_neg g] at h
   have hlt := lt_of_heap h
   rw [if_neg (by omega), if_neg (by have := HB2.out.size; omega)]
   exact (hn1.block b hlt).trans h) HB3.out.size (HB3.out.trans (hn1.mono HB3.out.size)))
 clear e1 e2 e3 hri hb3 hn1 y0 y1 y2 y3 HCR HPP
 unfold idxCells at HF
 go_wp2_with fail
 exact bodyPost_ret (by kernel_rfl) rfl HF.out
end Go.Proofs.YtbidhpgjmcedaaaGreatDoor
