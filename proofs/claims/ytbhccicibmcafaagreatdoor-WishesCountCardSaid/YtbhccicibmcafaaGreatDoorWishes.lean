/- With what Ask returns, the answer is as it was wanted; and merging it in says the same: the law returns true. -/
import Derived.Test.YtbhccicibmcafaaGreatDoorGO
import Derived.Test.YtbhccicibmcafaaGreatDoorGP
import Derived.Test.YtbhccicibmcafaaGreatDoorGM
import Derived.Test.YtbhccicibmcafaaGreatDoorGH
import Derived.Test.YtbhccicibmcafaaGreatDoorGJ
import Derived.Test.YtbhccicibmcafaaGreatDoorGG
import Derived.Test.YtbhccicibmcafaaGreatDoorGA
namespace Go.Proofs.YtbhccicibmcafaaGreatDoor
set_option linter.unusedVariables false
open Go.RowKit
def ansFull (a : AnsD) : Obj := .cells #[.bool a.may, .int .i64 a.why, .int .i64 a.no] 37 (0, 0)
def ansZero : Obj := .cells #[.bool false, .int .i64 0, .int .i64 0] 37 (0, 0)
def AnsIn (a : AnsD) (w : World) (p : Nat) : Prop := w.heap[p]? = some ansZero ∨ w.heap[p]? = some (ansFull a)
def isAns (o : Obj) : Prop := ∃ cs fr, o = .cells cs 37 fr
/-- Only the block of the answer is written. -/
def E8 (a : AnsD) (w w' : World) : Prop := w.heap.size ≤ w'.heap.size ∧ (∀ (p : Nat) (o : Obj), w.heap[p]? = some o → ¬ isAns o → w'.heap[p]? = some o) ∧ (∀ p : Nat, AnsIn a w p → AnsIn a w' p)
theorem E8.of {a : AnsD} {w w' : World} (h : Below w.heap.size w w') : E8 a w w' := ⟨h.size, fun p o e _ => (h.block p (lt_of_heap e)).trans e, fun p e => by
  rcases e with e | e
  · exact Or.inl ((h.block p (lt_of_heap e)).trans e)
  · exact Or.inr ((h.block p (lt_of_heap e)).trans e)⟩
theorem E8.row {a : AnsD} {w w' : World} (h : E8 a w w') {B : Nat} {v : Value} {ds : List StD} (ho : Orow w B 43 8 fSt v ds) : Orow w' B 43 8 fSt v ds := by
  refine ⟨ho.1, ?_⟩
  rcases ho.2 with h1 | ⟨g, cap, cur, hv, hg, hh, r⟩
  · exact Or.inl h1
  · refine Or.inr ⟨g, cap, cur, hv, hg, h.2.1 g _ hh ?_, r⟩
    rintro ⟨cs, fr, e⟩
    injection e with _ e2
    exact absurd e2 (by decide)
/-- The state: the answer's block is written once the store has run. -/
def J8 (B0 : Nat) (H6 : Frz) (W7 : World) (an : AnsD) (L : Array Bool) (a : Act) (w : World) : Prop :=
  H6.In w ∧ Below W7.heap.size W7 w ∧ (L.getD 20 false = true → L.getD 19 false = true ∧ ∃ b : Nat, a.tmps.getD 10 undef = .pointer (some ⟨b, 0, none⟩) ∧ B0 ≤ b ∧ w.heap[b]? = some (ansFull an))
theorem J8.step {B0 : Nat} {H6 : Frz} {W7 : World} {an : AnsD} {L : Array Bool} {a : Act} {w w' : World} (h : J8 B0 H6 W7 an L a w) (hb : Below w.heap.size w w') {i d : Nat} (hi : i ≠ 20) (hi2 : i ≠ 19) (hd : d ≠ 10) (hds : d < a.tmps.size) (v : Value) : J8 B0 H6 W7 an (L.setIfInBounds i true) (a.put (some d) v) w' := by
  refine ⟨h.1.below hb, h.2.1.trans (hb.mono h.2.1.size), fun hl => ?_⟩
  rw [getD_set_ne false hi] at hl
  obtain ⟨h1, b, h2, h3, h4⟩ := h.2.2 hl
  refine ⟨by rw [getD_set_ne false hi2]; exact h1, b, ?_, h3, (hb.block b (lt_of_heap h4)).trans h4⟩
  rw [getD_put hds, if_neg (Ne.symm hd)]
  exact h2
theorem J8.new {B0 : Nat} {H6 : Frz} {W7 : World} {an : AnsD} {L : Array Bool} {a : Act} {w w' : World} (h : J8 B0 H6 W7 an L a w) (hb : Below w.heap.size w w') (h19 : L.getD 19 true = false) (v : Value) : J8 B0 H6 W7 an (L.setIfInBounds 19 true) (a.put (some 10) v) w' := by
  refine ⟨h.1.below hb, h.2.1.trans (hb.mono h.2.1.size), fun hl => ?_⟩
  rw [getD_set_ne false (by decide)] at hl
  obtain ⟨h1, -⟩ := h.2.2 hl
  simp only [Array.getD_eq_getD_getElem?] at h1 h19
  cases e : L[19]? with
  | none => rw [e] at h1; cases h1
  | some x => rw [e] at h1 h19; simp at h1 h19; rw [h1] at h19; cases h19
theorem set3_frz {H : Frz} {w : World} {b : Nat} (h : H.In w) (hb : H b = none) (x y z : Value) : H.In (((w.setCell ⟨b, 0, none⟩ x).setCell ⟨b, 1, none⟩ y).setCell ⟨b, 2, none⟩ z) := ((h.setCell hb x).setCell hb y).setCell hb z
theorem E8.store {a : AnsD} {w : World} {b : Nat} (h : AnsIn a w b) : E8 a w (((w.setCell ⟨b, 0, none⟩ (.bool a.may)).setCell ⟨b, 1, none⟩ (.int .i64 a.why)).setCell ⟨b, 2, none⟩ (.int .i64 a.no)) := by
  have hf : (((w.setCell ⟨b, 0, none⟩ (.bool a.may)).setCell ⟨b, 1, none⟩ (.int .i64 a.why)).setCell ⟨b, 2, none⟩ (.int .i64 a.no)).heap[b]? = some (ansFull a) := by
    rcases h with h | h
    · exact set3 h _ _ _
    · exact set3 h _ _ _
  have ho : ∀ p, p ≠ b → (((w.setCell ⟨b, 0, none⟩ (.bool a.may)).setCell ⟨b, 1, none⟩ (.int .i64 a.why)).setCell ⟨b, 2, none⟩ (.int .i64 a.no)).heap[p]? = w.heap[p]? := fun p hp => by
    rw [Below.heap_setCell _ _ _ p hp, Below.heap_setCell _ _ _ p hp, Below.heap_setCell _ _ _ p hp]
  refine ⟨by simp [World.setCell], fun p o e hn => ?_, fun p e => ?_⟩
  · by_cases c : p = b
    · subst c
      exfalso
      refine hn ?_
      rcases h with h | h
      · rw [h] at e; injection e with e; subst e; exact ⟨_, _, rfl⟩
      · rw [h] at e; injection e with e; subst e; exact ⟨_, _, rfl⟩
    · rw [ho p c]; exact e
  · by_cases c : p = b
    · subst c; exact Or.inr hf
    · unfold AnsIn
      rw [ho p c]; exact e
/-- What the operations of the drawn region leave. -/
def φ8 (B0 qb : Nat) (q : QueD) (pv lv ov : Value) (H6 : Frz) (ls : List SlD) (a : AnsD) (i : Nat) (v : Value) (w : World) : Prop :=
  match i with
  | 0 => v = pv
  | 1 => v = lv
  | 2 => v = ov
  | 3 => ∃ b : Nat, v = .slice (some ⟨b, 0, none⟩) 2 2 ∧ B0 ≤ b ∧ w.heap[b]? = some (.cells #[lv, ov] 28 (0, 0))
  | 4 => Orow w B0 43 8 fSt v (catF ls)
  | 5 => v = .pointer (some ⟨qb, 0, none⟩)
  | 6 => v = .agg #[.int .i64 q.kind, .string q.text]
  | 7 => v = .pointer (some ⟨qb, 2, none⟩)
  | 8 => v = .string q.purp
  | 9 => v = .pointer (some ⟨qb, 3, none⟩)
  | 10 => v = .string q.region
  | 11 => v = .pointer (some ⟨qb, 4, none⟩)
  | 12 => v = .int .i64 q.ch
  | 13 => v = .pointer (some ⟨qb, 5, none⟩)
  | 14 => v = .int .i64 q.at_
  | 15 => v = .tuple #[ansV a, .int .i64 0]
  | 16 => v = .tuple #[ansV a, .int .i64 0]
  | 17 => v = ansV a
  | 18 => v = .int .i64 0
  | 19 => ∃ b : Nat, v = .pointer (some ⟨b, 0, none⟩) ∧ B0 ≤ b ∧ AnsIn a w b
  | _ => True
theorem φ8_mono {B0 qb : Nat} {q : QueD} {pv lv ov : Value} {H6 : Frz} {ls : List SlD} {a : AnsD} (i : Nat) (x : Value) (w w' : World) (hi : i < 21) (e : E8 a w w') (h : φ8 B0 qb q pv lv ov H6 ls a i x w) : φ8 B0 qb q pv lv ov H6 ls a i x w' := by
  match i, h with
  | 0, h => exact h
  | 1, h => exact h
  | 2, h => exact h
  | 3, h =>
    obtain ⟨q, h1, h2, h3⟩ := h
    refine ⟨q, h1, h2, e.2.1 q _ h3 ?_⟩
    rintro ⟨cs, fr, e⟩
    injection e with _ e2
    exact absurd e2 (by decide)
  | 4, h => exact e.row h
  | 5, h => exact h
  | 6, h => exact h
  | 7, h => exact h
  | 8, h => exact h
  | 9, h => exact h
  | 10, h => exact h
  | 11, h => exact h
  | 12, h => exact h
  | 13, h => exact h
  | 14, h => exact h
  | 15, h => exact h
  | 16, h => exact h
  | 17, h => exact h
  | 18, h => exact h
  | 19, h => obtain ⟨q, h1, h2, h3⟩ := h; exact ⟨q, h1, h2, e.2.2 q h3⟩
  | 20, h => exact trivial
  | i + 21, h => exact trivial
theorem φ8_none {l : List Oper} {B0 qb : Nat} {q : QueD} {pv lv ov : Value} {H6 : Frz} {ls : List SlD} {a : AnsD} (i : Nat) (x : Value) (w : World) (hi : i < 21) (hd : ∀ j, j < 20 → dstAt l j ≠ none) (e : dstAt l i = none) (h : φ8 B0 qb q pv lv ov H6 ls a i x w) : φ8 B0 qb q pv lv ov H6 ls a i undef w := by
  have : i = 20 := by
    by_cases c : i < 20
    · exact absurd e (hd i c)
    · omega
  subst this
  trivial
set_option maxHeartbeats 16000000 in
set_option maxRecDepth 100000 in
theorem wishesCount_walk (a0 : Option Addr) (len0 cap0 : Nat) (z0 : List Int) (w : World) (w0 : IsRow .i64 w a0 len0 cap0 z0) (hG : GlobOk w) :
    Calls Tryz.prog 7 #[.slice a0 len0 cap0] w fun e w' => e = .returned (.bool true) ∧ Below w.heap.size w w' := by
  have L := Lw.whole w0
  have HG := Lib.hid hG
  clear hG w0
  go_enter Tryz.func7, Tryz.ntmps7
  go_wp2_with fail
  refine (L.rightPolicy (by omega)).mono ?_
  rintro e W1 ⟨A, cap, ps, H1, rfl, L1, le1, hP, hpe, hp0, hp3, hpc⟩
  have HL1 := Lib.hid L1
  have HP := Lib.hid hP
  have HPE := Lib.hid hpe
  have HPO := Lib.hid (HG.out.pool.le le1)
  have HML := Lib.hid (HG.out.mlen.le le1)
  clear L L1 hP hpe le1 HG
  go_wp2_with fail
  refine (HL1.out.range 0 12 (by omega) (by omega) (by omega) (by omega)).mono ?_
  rintro e W2 ⟨m, rfl, m1, m2, L2, -, -⟩
  obtain ⟨m, rfl⟩ := Int.eq_ofNat_of_zero_le (show 0 ≤ m by omega)
  have HL2 := Lib.hid L2
  clear L2 HL1
  go_wp2_with fail
  refine (HL2.out.rightStatements (by omega) HPO.out A cap ps HP.out HPE.out hp0 (by omega) m (by omega)).mono ?_
  rintro e W3 ⟨A2, cap2, ss, H3, rfl, L3, le3, hR, hse, hsz, hsl, hsc⟩
  have HL3 := Lib.hid (L3.more (K' := 400) (by omega))
  have HP3 := Lib.hid (HP.out.le le3)
  have HPO3 := Lib.hid (HPO.out.le le3)
  have HML3 := Lib.hid (HML.out.le le3)
  have HR3 := Lib.hid hR
  have HSZ := Lib.hid hsz
  have hs12 : ss.length ≤ 12 := by omega
  clear L3 le3 hR hse hsz hsl HL2 HP HPO HML
  go_wp2_with fail
  refine (HL3.out.question HPO3.out (by omega) A cap ps HP3.out hp0 (by omega)).mono ?_
  rintro e W4 ⟨q, rfl, hq, L4, -⟩
  obtain ⟨H5, le5, hb5, L5⟩ := L4.put (.cells #[.int .i64 q.kind, .string q.text, .string q.purp, .string q.region, .int .i64 q.ch, .int .i64 q.at_] 34)
  have HL5 := Lib.hid L5
  have HQ := Lib.hid hq
  have HP5 := Lib.hid (HP3.out.le le5)
  have HML5 := Lib.hid (HML3.out.le le5)
  have HR5 := Lib.hid (HR3.out.le le5)
  have HB5 := Lib.hid hb5
  clear hq le5 hb5 L5 L4 HL3 HP3 HPO3 HML3 HR3
  go_upto_region 4 with (fail)
  generalize W4.alloc (.cells #[.int .i64 q.kind, .string q.text, .string q.purp, .string q.region, .int .i64 q.ch, .int .i64 q.at_] 34) = W5 at *
  generalize W4.heap.size = qb at *
  go_wp2_with fail
  refine (HL5.out.flip 2 (by omega) (by omega)).mono ?_
  rintro e W6 ⟨want, rfl, L6, -, -⟩
  have HL6 := Lib.hid L6
  clear L6 HL5
  have hq5 := HL6.out.fin _ _ HB5.out
  have q0 : W6.cell? ⟨qb, 0, none⟩ = some (.int .i64 q.kind) := cell_h (hq5) 0 rfl
  have q1 : W6.cell? ⟨qb, 1, none⟩ = some (.string q.text) := cell_h (hq5) 1 rfl
  have q2 : W6.cell? ⟨qb, 2, none⟩ = some (.string q.purp) := cell_h (hq5) 2 rfl
  have q3 : W6.cell? ⟨qb, 3, none⟩ = some (.string q.region) := cell_h (hq5) 3 rfl
  have q4 : W6.cell? ⟨qb, 4, none⟩ = some (.int .i64 q.ch) := cell_h (hq5) 4 rfl
  have q5 : W6.cell? ⟨qb, 5, none⟩ = some (.int .i64 q.at_) := cell_h (hq5) 5 rfl
  clear hq5
  cases want with
  | false =>
    have HASK := Lib.hid (askNo_any H5 HML5.out A cap ps A2 cap2 ss q.kind q.text q.purp q.region q.ch q.at_ W6 HL6.out.fin HP5.out (by omega) HR5.out (by omega) HSZ.out (by have := HQ.out.text; omega) (by have := HQ.out.region; omega))
    have HER := Lib.hid (fun h => askNo_er (ps := ps) (ss := ss) (kind := q.kind) (text := q.text) (purp := q.purp) (region := q.region) (ch := q.ch) (at_ := q.at_) h)
    have HOK := Lib.hid (fun h => askNo_ok (ps := ps) (ss := ss) (kind := q.kind) (text := q.text) (purp := q.purp) (region := q.region) (ch := q.ch) (at_ := q.at_) h)
    generalize askNo ps ss q.kind q.text q.purp q.region q.ch q.at_ = res at *
    obtain ⟨er, out⟩ := res
    go_wp2_with fail
    refine HASK.out.mono ?_
    rintro e W7 ⟨vx, rfl, hO, hb⟩
    dsimp only at hO HER HOK
    have L7 := HL6.out.call hb
    obtain ⟨A6, cap6, H6, hvx, hle6, p1, p2, hR6, p3, -⟩ := hO.freeze H5
    subst hvx
    have le6 := p2 (fun g hg => HL6.out.fin.none_ (hO.lt hg).1)
    have HL7 : Hid (Lw w w.heap.size (400 + 20 + 1) H6 W7) := ⟨L7.st, L7.bel, L7.le, p1 L7.fin, by rw [p3 _ HL6.out.lt]; exact L7.apart⟩
    have HP6 := Lib.hid (HP5.out.le le6)
    have HML6 := Lib.hid (HML5.out.le le6)
    have HR6 := Lib.hid (HR5.out.le le6)
    have HRX := Lib.hid hR6
    have HB6 := Lib.hid (le6 _ _ HB5.out)
    clear q0 q1 q2 q3 q4 q5 hb hO L7 p1 p2 p3 hR6 le6 HASK HL6 HP5 HML5 HR5 HB5
    by_cases her : er = 0
    · have HW := Lib.hid (HOK.out her)
      subst her
      clear HER HOK
      have hol := HW.out.len
      have HSX := Lib.hid (HW.out.sz (by have := HQ.out.text; omega) (HQ.out.purp) (by have := HQ.out.region; omega))
      have HSC : Hid (SzSt (ss ++ out)) := fun s hs => by
        rcases List.mem_append.1 hs with hs | hs
        · exact HSZ.out s hs
        · exact HSX.out s hs
      obtain ⟨ls, hls⟩ : ∃ ls : List SlD, ls = [⟨A2, cap2, ss⟩, ⟨A6, cap6, out⟩] := ⟨_, rfl⟩
      have HLS : Hid (ls.length = 2) := by show _ = _; rw [hls]; rfl
      have HCAT : Hid (catF ls = ss ++ out) := by show _ = _; rw [hls]; simp [catF]
      have HALL : Hid (∀ d ∈ ls, Rw H6 d.A 8 fSt d.l) := by
        intro d hd
        rw [hls] at hd
        simp at hd
        rcases hd with rfl | rfl
        · exact HR6.out
        · exact HRX.out
      have HCS : Hid (cellsOf 1 fSl ls = [.slice A2 ss.length cap2, .slice A6 out.length cap6]) := by show _ = _; rw [hls]; rfl
      clear hls
      go_wp2_with fail
      refine wp_region_concV 21 152 (φ8 W7.heap.size qb q (.slice A ps.length cap) (.slice A2 ss.length cap2) (.slice A6 out.length cap6) H6 ls (mayA ps (ss ++ out) q.kind q.text q.purp q.region q.ch q.at_)) (J8 W7.heap.size H6 W7 (mayA ps (ss ++ out) q.kind q.text q.purp q.region q.ch q.at_)) (E8 (mayA ps (ss ++ out) q.kind q.text q.purp q.region q.ch q.at_)) (by kernel_rfl) (by kernel_rfl) (by rfl) ⟨HL7.out.fin, (Below.refl _ _).drew, fun h => by simp at h⟩ φ8_mono (fun i x w hi e h => φ8_none i x w hi (by decide) e h) ?_ ?_
      · intro n o hn ho a W2 L hr hs152 hLs hJ hkn
        replace hs152 : a.tmps.size = 152 := hs152
        have hcs : n = 0 ∨ n = 1 ∨ n = 2 ∨ n = 3 ∨ n = 4 ∨ n = 5 ∨ n = 6 ∨ n = 7 ∨ n = 8 ∨ n = 9 ∨ n = 10 ∨ n = 11 ∨ n = 12 ∨ n = 13 ∨ n = 14 ∨ n = 15 ∨ n = 16 ∨ n = 17 ∨ n = 18 ∨ n = 19 ∨ n = 20 := by omega
        rcases hcs with rfl | rfl | rfl | rfl | rfl | rfl | rfl | rfl | rfl | rfl | rfl | rfl | rfl | rfl | rfl | rfl | rfl | rfl | rfl | rfl | rfl
        · obtain rfl := Option.some.inj ho
          refine OpV.mono (R := fun v w' => φ8 W7.heap.size qb q (.slice A ps.length cap) (.slice A2 ss.length cap2) (.slice A6 out.length cap6) H6 ls (mayA ps (ss ++ out) q.kind q.text q.purp q.region q.ch q.at_) 0 v w' ∧ Below W2.heap.size W2 w') ?_ (fun v w' h => ⟨h.1, hJ.step h.2 (by decide) (by decide) (by decide) (by rw [hs152]; decide) v, E8.of h.2⟩)
          exact ⟨hkn 4 (by decide), Below.refl _ _⟩
        · obtain rfl := Option.some.inj ho
          refine OpV.mono (R := fun v w' => φ8 W7.heap.size qb q (.slice A ps.length cap) (.slice A2 ss.length cap2) (.slice A6 out.length cap6) H6 ls (mayA ps (ss ++ out) q.kind q.text q.purp q.region q.ch q.at_) 1 v w' ∧ Below W2.heap.size W2 w') ?_ (fun v w' h => ⟨h.1, hJ.step h.2 (by decide) (by decide) (by decide) (by rw [hs152]; decide) v, E8.of h.2⟩)
          exact ⟨hkn 5 (by decide), Below.refl _ _⟩
        · obtain rfl := Option.some.inj ho
          refine OpV.mono (R := fun v w' => φ8 W7.heap.size qb q (.slice A ps.length cap) (.slice A2 ss.length cap2) (.slice A6 out.length cap6) H6 ls (mayA ps (ss ++ out) q.kind q.text q.purp q.region q.ch q.at_) 2 v w' ∧ Below W2.heap.size W2 w') ?_ (fun v w' h => ⟨h.1, hJ.step h.2 (by decide) (by decide) (by decide) (by rw [hs152]; decide) v, E8.of h.2⟩)
          exact ⟨hkn 8 (by decide), Below.refl _ _⟩
        · obtain rfl := Option.some.inj ho
          refine OpV.mono (R := fun v w' => φ8 W7.heap.size qb q (.slice A ps.length cap) (.slice A2 ss.length cap2) (.slice A6 out.length cap6) H6 ls (mayA ps (ss ++ out) q.kind q.text q.purp q.region q.ch q.at_) 3 v w' ∧ Below W2.heap.size W2 w') ?_ (fun v w' h => ⟨h.1, hJ.step h.2 (by decide) (by decide) (by decide) (by rw [hs152]; decide) v, E8.of h.2⟩)
          have h1 := slot_of (hkn 57 (by decide) : a.tmps.getD 57 undef = .slice A2 ss.length cap2)
          have h2 := slot_of (hkn 58 (by decide) : a.tmps.getD 58 undef = .slice A6 out.length cap6)
          clear hkn ho
          simp only [OpV, execOp]
          simp [go_sem, h1, h2]
          exact ⟨⟨W2.heap.size, rfl, hJ.2.1.size, heap_alloc_new _ _⟩, new1 _⟩
        · obtain rfl := Option.some.inj ho
          refine OpV.mono (R := fun v w' => φ8 W7.heap.size qb q (.slice A ps.length cap) (.slice A2 ss.length cap2) (.slice A6 out.length cap6) H6 ls (mayA ps (ss ++ out) q.kind q.text q.purp q.region q.ch q.at_) 4 v w' ∧ Below W2.heap.size W2 w') ?_ (fun v w' h => ⟨h.1, hJ.step h.2 (by decide) (by decide) (by decide) (by rw [hs152]; decide) v, E8.of h.2⟩)
          obtain ⟨b, h1, hb0, hh⟩ : ∃ b : Nat, a.tmps.getD 59 undef = .slice (some ⟨b, 0, none⟩) 2 2 ∧ W7.heap.size ≤ b ∧ W2.heap[b]? = some (.cells #[.slice A2 ss.length cap2, .slice A6 out.length cap6] 28 (0, 0)) := hkn 59 (by decide)
          replace h1 := slot_of h1
          have hbn := HL7.out.fin.none_ hb0
          have hrw : Rw (H6.add b (.cells #[.slice A2 ss.length cap2, .slice A6 out.length cap6] 28 (0, 0))) (some ⟨b, 0, none⟩) 1 fSl ls := Rw_blk (T := 28) (by rw [HCS.out]; exact Frz.add_at _ _ _)
          have hcc := concat_St _ (some ⟨b, 0, none⟩) 2 ls W2 (hJ.1.add hh) hrw (fun d hd => (HALL.out d hd).le (Frz.le_add hbn)) (by have := HLS.out; omega) (by rw [HCAT.out, List.length_append]; omega)
          rw [HLS.out] at hcc
          have hsz7 := hJ.2.1.size
          clear hkn ho
          simp only [OpV, execOp]
          simp [go_sem, h1]
          refine hcc.mono ?_
          rintro e w' ⟨⟨v, rfl, hO⟩, hb⟩
          exact ⟨v, rfl, hO.mono hsz7, hb⟩
        · obtain rfl := Option.some.inj ho
          refine OpV.mono (R := fun v w' => φ8 W7.heap.size qb q (.slice A ps.length cap) (.slice A2 ss.length cap2) (.slice A6 out.length cap6) H6 ls (mayA ps (ss ++ out) q.kind q.text q.purp q.region q.ch q.at_) 5 v w' ∧ Below W2.heap.size W2 w') ?_ (fun v w' h => ⟨h.1, hJ.step h.2 (by decide) (by decide) (by decide) (by rw [hs152]; decide) v, E8.of h.2⟩)
          have h1 := slot_of (hkn 6 (by decide) : a.tmps.getD 6 undef = .pointer (some ⟨qb, 0, none⟩))
          clear hkn ho
          simp only [OpV, execOp]
          simp [go_sem, h1]
          exact ⟨rfl, Below.refl _ _⟩
        · obtain rfl := Option.some.inj ho
          refine OpV.mono (R := fun v w' => φ8 W7.heap.size qb q (.slice A ps.length cap) (.slice A2 ss.length cap2) (.slice A6 out.length cap6) H6 ls (mayA ps (ss ++ out) q.kind q.text q.purp q.region q.ch q.at_) 6 v w' ∧ Below W2.heap.size W2 w') ?_ (fun v w' h => ⟨h.1, hJ.step h.2 (by decide) (by decide) (by decide) (by rw [hs152]; decide) v, E8.of h.2⟩)
          have h1 := slot_of (hkn 61 (by decide) : a.tmps.getD 61 undef = .pointer (some ⟨qb, 0, none⟩))
          have x0 : W2.cell? ⟨qb, 0, none⟩ = some (.int .i64 q.kind) := cell_h (hJ.1 _ _ HB6.out) 0 rfl
          have x1 : W2.cell? ⟨qb, 1, none⟩ = some (.string q.text) := cell_h (hJ.1 _ _ HB6.out) 1 rfl
          clear hkn ho
          simp only [OpV, execOp]
          simp [go_sem, h1, x0, x1]
          exact ⟨rfl, Below.refl _ _⟩
        · obtain rfl := Option.some.inj ho
          refine OpV.mono (R := fun v w' => φ8 W7.heap.size qb q (.slice A ps.length cap) (.slice A2 ss.length cap2) (.slice A6 out.length cap6) H6 ls (mayA ps (ss ++ out) q.kind q.text q.purp q.region q.ch q.at_) 7 v w' ∧ Below W2.heap.size W2 w') ?_ (fun v w' h => ⟨h.1, hJ.step h.2 (by decide) (by decide) (by decide) (by rw [hs152]; decide) v, E8.of h.2⟩)
          have h1 := slot_of (hkn 6 (by decide) : a.tmps.getD 6 undef = .pointer (some ⟨qb, 0, none⟩))
          clear hkn ho
          simp only [OpV, execOp]
          simp [go_sem, h1]
          exact ⟨rfl, Below.refl _ _⟩
        · obtain rfl := Option.some.inj ho
          refine OpV.mono (R := fun v w' => φ8 W7.heap.size qb q (.slice A ps.length cap) (.slice A2 ss.length cap2) (.slice A6 out.length cap6) H6 ls (mayA ps (ss ++ out) q.kind q.text q.purp q.region q.ch q.at_) 8 v w' ∧ Below W2.heap.size W2 w') ?_ (fun v w' h => ⟨h.1, hJ.step h.2 (by decide) (by decide) (by decide) (by rw [hs152]; decide) v, E8.of h.2⟩)
          have h1 := slot_of (hkn 63 (by decide) : a.tmps.getD 63 undef = .pointer (some ⟨qb, 2, none⟩))
          have x2 : W2.cell? ⟨qb, 2, none⟩ = some (.string q.purp) := cell_h (hJ.1 _ _ HB6.out) 2 rfl
          clear hkn ho
          simp only [OpV, execOp]
          simp [go_sem, h1, x2]
          exact ⟨rfl, Below.refl _ _⟩
        · obtain rfl := Option.some.inj ho
          refine OpV.mono (R := fun v w' => φ8 W7.heap.size qb q (.slice A ps.length cap) (.slice A2 ss.length cap2) (.slice A6 out.length cap6) H6 ls (mayA ps (ss ++ out) q.kind q.text q.purp q.region q.ch q.at_) 9 v w' ∧ Below W2.heap.size W2 w') ?_ (fun v w' h => ⟨h.1, hJ.step h.2 (by decide) (by decide) (by decide) (by rw [hs152]; decide) v, E8.of h.2⟩)
          have h1 := slot_of (hkn 6 (by decide) : a.tmps.getD 6 undef = .pointer (some ⟨qb, 0, none⟩))
          clear hkn ho
          simp only [OpV, execOp]
          simp [go_sem, h1]
          exact ⟨rfl, Below.refl _ _⟩
        · obtain rfl := Option.some.inj ho
          refine OpV.mono (R := fun v w' => φ8 W7.heap.size qb q (.slice A ps.length cap) (.slice A2 ss.length cap2) (.slice A6 out.length cap6) H6 ls (mayA ps (ss ++ out) q.kind q.text q.purp q.region q.ch q.at_) 10 v w' ∧ Below W2.heap.size W2 w') ?_ (fun v w' h => ⟨h.1, hJ.step h.2 (by decide) (by decide) (by decide) (by rw [hs152]; decide) v, E8.of h.2⟩)
          have h1 := slot_of (hkn 65 (by decide) : a.tmps.getD 65 undef = .pointer (some ⟨qb, 3, none⟩))
          have x3 : W2.cell? ⟨qb, 3, none⟩ = some (.string q.region) := cell_h (hJ.1 _ _ HB6.out) 3 rfl
          clear hkn ho
          simp only [OpV, execOp]
          simp [go_sem, h1, x3]
          exact ⟨rfl, Below.refl _ _⟩
        · obtain rfl := Option.some.inj ho
          refine OpV.mono (R := fun v w' => φ8 W7.heap.size qb q (.slice A ps.length cap) (.slice A2 ss.length cap2) (.slice A6 out.length cap6) H6 ls (mayA ps (ss ++ out) q.kind q.text q.purp q.region q.ch q.at_) 11 v w' ∧ Below W2.heap.size W2 w') ?_ (fun v w' h => ⟨h.1, hJ.step h.2 (by decide) (by decide) (by decide) (by rw [hs152]; decide) v, E8.of h.2⟩)
          have h1 := slot_of (hkn 6 (by decide) : a.tmps.getD 6 undef = .pointer (some ⟨qb, 0, none⟩))
          clear hkn ho
          simp only [OpV, execOp]
          simp [go_sem, h1]
          exact ⟨rfl, Below.refl _ _⟩
        · obtain rfl := Option.some.inj ho
          refine OpV.mono (R := fun v w' => φ8 W7.heap.size qb q (.slice A ps.length cap) (.slice A2 ss.length cap2) (.slice A6 out.length cap6) H6 ls (mayA ps (ss ++ out) q.kind q.text q.purp q.region q.ch q.at_) 12 v w' ∧ Below W2.heap.size W2 w') ?_ (fun v w' h => ⟨h.1, hJ.step h.2 (by decide) (by decide) (by decide) (by rw [hs152]; decide) v, E8.of h.2⟩)
          have h1 := slot_of (hkn 67 (by decide) : a.tmps.getD 67 undef = .pointer (some ⟨qb, 4, none⟩))
          have x4 : W2.cell? ⟨qb, 4, none⟩ = some (.int .i64 q.ch) := cell_h (hJ.1 _ _ HB6.out) 4 rfl
          clear hkn ho
          simp only [OpV, execOp]
          simp [go_sem, h1, x4]
          exact ⟨rfl, Below.refl _ _⟩
        · obtain rfl := Option.some.inj ho
          refine OpV.mono (R := fun v w' => φ8 W7.heap.size qb q (.slice A ps.length cap) (.slice A2 ss.length cap2) (.slice A6 out.length cap6) H6 ls (mayA ps (ss ++ out) q.kind q.text q.purp q.region q.ch q.at_) 13 v w' ∧ Below W2.heap.size W2 w') ?_ (fun v w' h => ⟨h.1, hJ.step h.2 (by decide) (by decide) (by decide) (by rw [hs152]; decide) v, E8.of h.2⟩)
          have h1 := slot_of (hkn 6 (by decide) : a.tmps.getD 6 undef = .pointer (some ⟨qb, 0, none⟩))
          clear hkn ho
          simp only [OpV, execOp]
          simp [go_sem, h1]
          exact ⟨rfl, Below.refl _ _⟩
        · obtain rfl := Option.some.inj ho
          refine OpV.mono (R := fun v w' => φ8 W7.heap.size qb q (.slice A ps.length cap) (.slice A2 ss.length cap2) (.slice A6 out.length cap6) H6 ls (mayA ps (ss ++ out) q.kind q.text q.purp q.region q.ch q.at_) 14 v w' ∧ Below W2.heap.size W2 w') ?_ (fun v w' h => ⟨h.1, hJ.step h.2 (by decide) (by decide) (by decide) (by rw [hs152]; decide) v, E8.of h.2⟩)
          have h1 := slot_of (hkn 69 (by decide) : a.tmps.getD 69 undef = .pointer (some ⟨qb, 5, none⟩))
          have x5 : W2.cell? ⟨qb, 5, none⟩ = some (.int .i64 q.at_) := cell_h (hJ.1 _ _ HB6.out) 5 rfl
          clear hkn ho
          simp only [OpV, execOp]
          simp [go_sem, h1, x5]
          exact ⟨rfl, Below.refl _ _⟩
        · obtain rfl := Option.some.inj ho
          refine OpV.mono (R := fun v w' => φ8 W7.heap.size qb q (.slice A ps.length cap) (.slice A2 ss.length cap2) (.slice A6 out.length cap6) H6 ls (mayA ps (ss ++ out) q.kind q.text q.purp q.region q.ch q.at_) 15 v w' ∧ Below W2.heap.size W2 w') ?_ (fun v w' h => ⟨h.1, hJ.step h.2 (by decide) (by decide) (by decide) (by rw [hs152]; decide) v, E8.of h.2⟩)
          have h1 := slot_of (hkn 56 (by decide) : a.tmps.getD 56 undef = .slice A ps.length cap)
          have hO : Orow W2 W7.heap.size 43 8 fSt (a.tmps.getD 60 undef) (catF ls) := hkn 60 (by decide)
          obtain ⟨A9, cap9, H9, h2, -, p1, p2, hR9, -⟩ := hO.freeze H6
          have le := p2 (fun g hg => HL7.out.fin.none_ (hO.lt hg).1)
          have hin := p1 hJ.1
          replace h2 := slot_of h2
          have h3 := slot_of (hkn 62 (by decide) : a.tmps.getD 62 undef = .agg #[.int .i64 q.kind, .string q.text])
          have h4 := slot_of (hkn 64 (by decide) : a.tmps.getD 64 undef = .string q.purp)
          have h5 := slot_of (hkn 66 (by decide) : a.tmps.getD 66 undef = .string q.region)
          have h6 := slot_of (hkn 68 (by decide) : a.tmps.getD 68 undef = .int .i64 q.ch)
          have h7 := slot_of (hkn 70 (by decide) : a.tmps.getD 70 undef = .int .i64 q.at_)
          rw [HCAT.out] at h2 hR9
          have hmy := may_any H9 (HML6.out.le le) A cap ps A9 cap9 (ss ++ out) q.kind q.text q.purp q.region q.ch q.at_ W2 hin (HP6.out.le le) (by omega) hR9 (by rw [List.length_append]; omega) HSC.out (by have := HQ.out.text; omega) (by have := HQ.out.region; omega)
          rw [HW.out.all0] at hmy
          clear hkn ho hO p1 p2
          simp only [OpV, execOp]
          simp [go_sem, h1, h2, h3, h4, h5, h6, h7]
          simp only [List.length_append] at hmy
          refine hmy.mono ?_
          rintro e w' ⟨rfl, hb⟩
          exact ⟨_, rfl, rfl, hb⟩
        · obtain rfl := Option.some.inj ho
          refine OpV.mono (R := fun v w' => φ8 W7.heap.size qb q (.slice A ps.length cap) (.slice A2 ss.length cap2) (.slice A6 out.length cap6) H6 ls (mayA ps (ss ++ out) q.kind q.text q.purp q.region q.ch q.at_) 16 v w' ∧ Below W2.heap.size W2 w') ?_ (fun v w' h => ⟨h.1, hJ.step h.2 (by decide) (by decide) (by decide) (by rw [hs152]; decide) v, E8.of h.2⟩)
          exact ⟨hkn 71 (by decide), Below.refl _ _⟩
        · obtain rfl := Option.some.inj ho
          refine OpV.mono (R := fun v w' => φ8 W7.heap.size qb q (.slice A ps.length cap) (.slice A2 ss.length cap2) (.slice A6 out.length cap6) H6 ls (mayA ps (ss ++ out) q.kind q.text q.purp q.region q.ch q.at_) 17 v w' ∧ Below W2.heap.size W2 w') ?_ (fun v w' h => ⟨h.1, hJ.step h.2 (by decide) (by decide) (by decide) (by rw [hs152]; decide) v, E8.of h.2⟩)
          have h1 := slot_of (hkn 55 (by decide) : a.tmps.getD 55 undef = .tuple #[ansV (mayA ps (ss ++ out) q.kind q.text q.purp q.region q.ch q.at_), .int .i64 0])
          clear hkn ho
          simp only [OpV, execOp]
          simp [go_sem, h1]
          exact ⟨rfl, Below.refl _ _⟩
        · obtain rfl := Option.some.inj ho
          refine OpV.mono (R := fun v w' => φ8 W7.heap.size qb q (.slice A ps.length cap) (.slice A2 ss.length cap2) (.slice A6 out.length cap6) H6 ls (mayA ps (ss ++ out) q.kind q.text q.purp q.region q.ch q.at_) 18 v w' ∧ Below W2.heap.size W2 w') ?_ (fun v w' h => ⟨h.1, hJ.step h.2 (by decide) (by decide) (by decide) (by rw [hs152]; decide) v, E8.of h.2⟩)
          have h1 := slot_of (hkn 55 (by decide) : a.tmps.getD 55 undef = .tuple #[ansV (mayA ps (ss ++ out) q.kind q.text q.purp q.region q.ch q.at_), .int .i64 0])
          clear hkn ho
          simp only [OpV, execOp]
          simp [go_sem, h1]
          exact ⟨rfl, Below.refl _ _⟩
        · obtain rfl := Option.some.inj ho
          refine OpV.mono (R := fun v w' => φ8 W7.heap.size qb q (.slice A ps.length cap) (.slice A2 ss.length cap2) (.slice A6 out.length cap6) H6 ls (mayA ps (ss ++ out) q.kind q.text q.purp q.region q.ch q.at_) 19 v w' ∧ Below W2.heap.size W2 w') ?_ (fun v w' h => ⟨h.1, hJ.new h.2 (mem_ready.1 hr).1 v, E8.of h.2⟩)
          clear hkn ho
          simp only [OpV, execOp]
          simp [go_sem]
          exact ⟨⟨W2.heap.size, rfl, hJ.2.1.size, Or.inl (heap_alloc_new _ _)⟩, new1 _⟩
        · obtain rfl := Option.some.inj ho
          obtain ⟨b, h1, hb0, hin⟩ : ∃ b : Nat, a.tmps.getD 10 undef = .pointer (some ⟨b, 0, none⟩) ∧ W7.heap.size ≤ b ∧ AnsIn (mayA ps (ss ++ out) q.kind q.text q.purp q.region q.ch q.at_) W2 b := hkn 10 (by decide)
          have h2 : a.tmps.getD 72 undef = ansV (mayA ps (ss ++ out) q.kind q.text q.purp q.region q.ch q.at_) := hkn 72 (by decide)
          have h19 : L.getD 19 false = true := by
            obtain ⟨_, o', ho', hall⟩ := mem_ready.1 hr
            obtain rfl := Option.some.inj ho'
            exact hall { on := 19, ground := Ground.data } (by simp) rfl
          have hbn := HL7.out.fin.none_ hb0
          generalize mayA ps (ss ++ out) q.kind q.text q.purp q.region q.ch q.at_ = an at *
          refine OpV.mono (R := fun v w' => w' = ((W2.setCell ⟨b, 0, none⟩ (.bool an.may)).setCell ⟨b, 1, none⟩ (.int .i64 an.why)).setCell ⟨b, 2, none⟩ (.int .i64 an.no)) ?_ (fun v w' h => ?_)
          · have h1' := slot_of h1
            have h2' := slot_of h2
            have hz : ∃ x y z, W2.heap[b]? = some (.cells #[x, y, z] 37 (0, 0)) := by
              rcases hin with h | h
              · exact ⟨_, _, _, h⟩
              · exact ⟨_, _, _, h⟩
            obtain ⟨x, y, z, hz⟩ := hz
            have c0 : W2.cell? ⟨b, 0, none⟩ = some x := cell_h hz 0 rfl
            have c1 : W2.cell? ⟨b, 1, none⟩ = some y := cell_h hz 1 rfl
            have c2 : W2.cell? ⟨b, 2, none⟩ = some z := cell_h hz 2 rfl
            have f0 := froz_h hz 0
            have f1 := froz_h hz 1
            have f2 := froz_h hz 2
            rw [show ansV an = .agg #[.bool an.may, .int .i64 an.why, .int .i64 an.no] from rfl] at h2'
            clear hkn ho hin hz h1 h2
            simp only [OpV, execOp]
            simp [go_sem, h1', h2', c0, c1, c2, f0, f1, f2]
          · subst h
            refine ⟨trivial, ⟨set3_frz hJ.1 hbn _ _ _, below_set3 hJ.2.1 hb0 _ _ _, fun _ => ⟨by rw [getD_set_ne false (by decide)]; exact h19, b, h1, hb0, ?_⟩⟩, E8.store hin⟩
            rcases hin with h | h
            · exact set3 h _ _ _
            · exact set3 h _ _ _
      · intro yv W9 L9 hL9 hW9 hgt hφ
        have e17 : yv 17 = ansV (mayA ps (ss ++ out) q.kind q.text q.purp q.region q.ch q.at_) := (hφ 17 (by omega)).resolve_right (fun c => (show ¬ ((some 72 : Option Nat) = none) from nofun) c.1)
        have e18 : yv 18 = .int .i64 0 := (hφ 18 (by omega)).resolve_right (fun c => (show ¬ ((some 73 : Option Nat) = none) from nofun) c.1)
        obtain ⟨hI9, hbx, h20⟩ := hW9
        obtain ⟨-, ab, hab, hq1, hq2⟩ := h20 (hL9 20 (by omega))
        have e19 : yv 19 = .pointer (some ⟨ab, 0, none⟩) := (hgt 19 10 rfl).symm.trans hab
        clear hgt hab h20 hL9
        have HGD := Lib.hid HW.out.good
        have HME := Lib.hid (mayA_eq HW.out.all0)
        have HMS := Lib.hid (fun m hm => merged_same (m := m) HW.out.all0 hm)
        rw [← HME.out] at HGD
        generalize mayA ps (ss ++ out) q.kind q.text q.purp q.region q.ch q.at_ = ans at *
        obtain ⟨am, ay, an⟩ := ans
        rw [show ansV ⟨am, ay, an⟩ = .agg #[.bool am, .int .i64 ay, .int .i64 an] from rfl] at e17
        clear hφ HME
        simp only [List.drop_succ_cons, List.drop_zero, List.take_succ_cons, List.take_zero, putAll, Nat.reduceAdd, e17, e18, e19]
        clear e17 e18 e19
        generalize yv 0 = y0
        generalize yv 1 = y1
        generalize yv 2 = y2
        generalize yv 3 = y3
        generalize yv 4 = y4
        generalize yv 5 = y5
        generalize yv 6 = y6
        generalize yv 7 = y7
        generalize yv 8 = y8
        generalize yv 9 = y9
        generalize yv 10 = y10
        generalize yv 11 = y11
        generalize yv 12 = y12
        generalize yv 13 = y13
        generalize yv 14 = y14
        generalize yv 15 = y15
        generalize yv 16 = y16
        have LL9 := HL7.out.call hbx
        obtain ⟨H9, hH9⟩ : ∃ H9, H9 = H6.add ab (.cells #[.bool am, .int .i64 ay, .int .i64 an] 37) := ⟨_, rfl⟩
        have hab : H6 ab = none := HL7.out.fin.none_ hq1
        have le9 : H6.Le H9 := by rw [hH9]; exact Frz.le_add hab
        have HB9 : Hid (H9 ab = some (.cells #[.bool am, .int .i64 ay, .int .i64 an] 37)) := by show _ = _; rw [hH9]; exact Frz.add_at _ _ _
        have HL9 : Hid (Lw w w.heap.size (400 + 20 + 1) H9 W9) := ⟨LL9.st, LL9.bel, LL9.le, by rw [hH9]; exact hI9.add hq2, by rw [hH9, Frz.add_other (by have := HL7.out.lt; omega)]; exact LL9.apart⟩
        have HP9 := Lib.hid (HP6.out.le le9)
        have HML9 := Lib.hid (HML6.out.le le9)
        have HR9 := Lib.hid (HR6.out.le le9)
        have HRX9 := Lib.hid (HRX.out.le le9)
        have HQ9 := Lib.hid (le9 _ _ HB6.out)
        clear hq1 hq2 hI9 hbx LL9 hab le9 hH9 HALL HCS HP6 HML6 HR6 HRX HB6 HL7 HLS HCAT
        go_upto_region 9 with (fail)
        obtain ⟨WC, rfl⟩ : ∃ WC : World, WC = W9 := ⟨_, rfl⟩
        have u0 : WC.cell? ⟨ab, 0, none⟩ = some (.bool am) := cell_h (HL9.out.fin _ _ HB9.out) 0 rfl
        have u1 : WC.cell? ⟨ab, 1, none⟩ = some (.int .i64 ay) := cell_h (HL9.out.fin _ _ HB9.out) 1 rfl
        obtain rfl : am = false := by
          rcases HGD.out with h | ⟨h, -⟩
          · exact h
          · cases h
        go_wp2_with fail
        clear u0 u1
        have hsub := HW.out.say1
        have hsub2 := HW.out.say2
        refine (merge_any H9 HML9.out A cap ps A6 cap6 out A2 cap2 ss WC HL9.out.fin HP9.out (by omega) HRX9.out HR9.out (by omega) HSX.out HSZ.out hsub hsub2).mono ?_
        rintro e WD ⟨v1, m, rfl, hO1, hM1, hb1⟩
        have L10 := HL9.out.call hb1
        obtain ⟨A7, cap7, H10, hv1, hle7, p1, p2, hR7, p3, -⟩ := hO1.freeze H9
        subst hv1
        have le10 := p2 (fun g hg => HL9.out.fin.none_ (hO1.lt hg).1)
        have HL10 : Hid (Lw w w.heap.size (400 + 20 + 1) H10 WD) := ⟨L10.st, L10.bel, L10.le, p1 L10.fin, by rw [p3 _ HL9.out.lt]; exact L10.apart⟩
        have HP10 := Lib.hid (HP9.out.le le10)
        have HML10 := Lib.hid (HML9.out.le le10)
        have HR10 := Lib.hid (HR9.out.le le10)
        have HRX10 := Lib.hid (HRX9.out.le le10)
        have HQ10 := Lib.hid (le10 _ _ HQ9.out)
        have HB10 := Lib.hid (le10 _ _ HB9.out)
        have HRM := Lib.hid hR7
        have HM1 := Lib.hid hM1
        clear hb1 hO1 L10 p1 p2 p3 hR7 le10 hM1 HL9 HP9 HML9 HR9 HRX9 HQ9 HB9
        go_wp2_with fail
        refine (merge_any H10 HML10.out A cap ps A2 cap2 ss A6 cap6 out WD HL10.out.fin HP10.out (by omega) HR10.out HRX10.out (by omega) HSZ.out HSX.out hsub2 hsub).mono ?_
        rintro e WE ⟨v2, m2, rfl, hO2, hM2, hb2⟩
        obtain rfl : m = m2 := merge_unique HM1.out hM2 List.perm_append_comm
        have L11 := HL10.out.call hb2
        obtain ⟨A8, cap8, H11, hv2, hle8, p1, p2, hR8, p3, -⟩ := hO2.freeze H10
        subst hv2
        have le11 := p2 (fun g hg => HL10.out.fin.none_ (hO2.lt hg).1)
        have HL11 : Hid (Lw w w.heap.size (400 + 20 + 1) H11 WE) := ⟨L11.st, L11.bel, L11.le, p1 L11.fin, by rw [p3 _ HL10.out.lt]; exact L11.apart⟩
        have HP11 := Lib.hid (HP10.out.le le11)
        have HML11 := Lib.hid (HML10.out.le le11)
        have HQ11 := Lib.hid (le11 _ _ HQ10.out)
        have HB11 := Lib.hid (le11 _ _ HB10.out)
        have HRM11 := Lib.hid (HRM.out.le le11)
        have HRN11 := Lib.hid hR8
        have HM2 := Lib.hid hM2
        have hml : m.length ≤ 14 := by have := hM2.len; rw [List.length_append] at this; omega
        clear hb2 hO2 L11 p1 p2 p3 hR8 le11 hM2 HL10 HP10 HML10 HR10 HRX10 HQ10 HB10 HRM HM1 hsub hsub2
        go_wp2_with fail
        refine (equal_St H11 A7 cap7 A8 cap8 m WE HL11.out.fin HRM11.out HRN11.out (by omega)).mono ?_
        rintro e WF ⟨rfl, hb3⟩
        have HL12 := Lib.hid (HL11.out.call hb3)
        obtain ⟨z1, z2, z3⟩ := HMS.out m HM2.out
        have HSM := Lib.hid (merged_sz HSC.out HM2.out)
        have HMA := Lib.hid (may_any H11 HML11.out A cap ps A7 cap7 m q.kind q.text q.purp q.region q.ch q.at_ WF HL12.out.fin HP11.out (by omega) HRM11.out (by omega) HSM.out (by have := HQ.out.text; omega) (by have := HQ.out.region; omega))
        rw [z1] at HMA
        generalize mayA ps m q.kind q.text q.purp q.region q.ch q.at_ = an2 at *
        obtain ⟨bm, byy, bn⟩ := an2
        dsimp only at z2 z3
        subst z2 z3
        have hq5 := HL12.out.fin _ _ HQ11.out
        have q0 : WF.cell? ⟨qb, 0, none⟩ = some (.int .i64 q.kind) := cell_h (hq5) 0 rfl
        have q1 : WF.cell? ⟨qb, 1, none⟩ = some (.string q.text) := cell_h (hq5) 1 rfl
        have q2 : WF.cell? ⟨qb, 2, none⟩ = some (.string q.purp) := cell_h (hq5) 2 rfl
        have q3 : WF.cell? ⟨qb, 3, none⟩ = some (.string q.region) := cell_h (hq5) 3 rfl
        have q4 : WF.cell? ⟨qb, 4, none⟩ = some (.int .i64 q.ch) := cell_h (hq5) 4 rfl
        have q5 : WF.cell? ⟨qb, 5, none⟩ = some (.int .i64 q.at_) := cell_h (hq5) 5 rfl
        clear hq5 hb3 z1 HL11
        go_wp2_with fail
        refine HMA.out.mono ?_
        rintro e WG ⟨rfl, hb4⟩
        rw [show ∀ x, ansV ⟨x, byy, bn⟩ = .agg #[.bool x, .int .i64 byy, .int .i64 bn] from fun _ => rfl]
        have L13 := HL12.out.call hb4
        obtain ⟨H14, le14, hb14, L14⟩ := L13.put (.cells #[.bool false, .int .i64 byy, .int .i64 bn] 37)
        have HL14 := Lib.hid L14
        have HML14 := Lib.hid (HML11.out.le le14)
        have HB14 := Lib.hid hb14
        have HB15 := Lib.hid (le14 _ _ HB11.out)
        clear q0 q1 q2 q3 q4 q5 hb4 L13 le14 hb14 L14 HMA HL12
        go_upto_region 16 with (fail)
        generalize WG.alloc (.cells #[.bool false, .int .i64 byy, .int .i64 bn] 37) = WH at *
        generalize WG.heap.size = bb at *
        have u0 : WH.cell? ⟨ab, 0, none⟩ = some (.bool false) := cell_h (HL14.out.fin _ _ HB15.out) 0 rfl
        have u1 : WH.cell? ⟨ab, 1, none⟩ = some (.int .i64 byy) := cell_h (HL14.out.fin _ _ HB15.out) 1 rfl
        have t0 : WH.cell? ⟨bb, 0, none⟩ = some (.bool false) := cell_h (HL14.out.fin _ _ HB14.out) 0 rfl
        have t1 : WH.cell? ⟨bb, 1, none⟩ = some (.int .i64 byy) := cell_h (HL14.out.fin _ _ HB14.out) 1 rfl
        go_wp2_with fail
        refine (consents_any H14 HML14.out WH HL14.out.fin).mono ?_
        rintro e WI ⟨rfl, hb9⟩
        have HF := Lib.hid (HL14.out.call hb9).bel
        clear hb9
        go_wp2_with fail
        go_ret
        exact ⟨rfl, HF.out⟩
    · have hout : out = [] := HER.out her
      subst hout
      have k1 : (er != 0) = true := by simpa using her
      clear her HER HOK
      go_wp2_with fail
      refine (consents_any H6 HML6.out W7 HL7.out.fin).mono ?_
      rintro e W8 ⟨rfl, hb⟩
      have HF := Lib.hid (HL7.out.call hb).bel
      clear hb
      go_wp2_with fail
      go_ret
      exact ⟨rfl, HF.out⟩
  | true =>
    have HASK := Lib.hid (askYes_any H5 HML5.out A cap ps A2 cap2 ss q.kind q.text q.purp q.region q.ch q.at_ W6 HL6.out.fin HP5.out (by omega) HR5.out (by omega) HSZ.out (by have := HQ.out.text; omega) (by have := HQ.out.region; omega))
    have HER := Lib.hid (fun h => askYes_er (ps := ps) (ss := ss) (kind := q.kind) (text := q.text) (purp := q.purp) (region := q.region) (ch := q.ch) (at_ := q.at_) h)
    have HOK := Lib.hid (fun h => askYes_ok (ps := ps) (ss := ss) (kind := q.kind) (text := q.text) (purp := q.purp) (region := q.region) (ch := q.ch) (at_ := q.at_) h)
    generalize askYes ps ss q.kind q.text q.purp q.region q.ch q.at_ = res at *
    obtain ⟨er, out⟩ := res
    go_wp2_with fail
    refine HASK.out.mono ?_
    rintro e W7 ⟨vx, rfl, hO, hb⟩
    dsimp only at hO HER HOK
    have L7 := HL6.out.call hb
    obtain ⟨A6, cap6, H6, hvx, hle6, p1, p2, hR6, p3, -⟩ := hO.freeze H5
    subst hvx
    have le6 := p2 (fun g hg => HL6.out.fin.none_ (hO.lt hg).1)
    have HL7 : Hid (Lw w w.heap.size (400 + 20 + 1) H6 W7) := ⟨L7.st, L7.bel, L7.le, p1 L7.fin, by rw [p3 _ HL6.out.lt]; exact L7.apart⟩
    have HP6 := Lib.hid (HP5.out.le le6)
    have HML6 := Lib.hid (HML5.out.le le6)
    have HR6 := Lib.hid (HR5.out.le le6)
    have HRX := Lib.hid hR6
    have HB6 := Lib.hid (le6 _ _ HB5.out)
    clear q0 q1 q2 q3 q4 q5 hb hO L7 p1 p2 p3 hR6 le6 HASK HL6 HP5 HML5 HR5 HB5
    by_cases her : er = 0
    · have HW := Lib.hid (HOK.out her)
      subst her
      clear HER HOK
      have hol := HW.out.len
      have HSX := Lib.hid (HW.out.sz (by have := HQ.out.text; omega) (HQ.out.purp) (by have := HQ.out.region; omega))
      have HSC : Hid (SzSt (ss ++ out)) := fun s hs => by
        rcases List.mem_append.1 hs with hs | hs
        · exact HSZ.out s hs
        · exact HSX.out s hs
      obtain ⟨ls, hls⟩ : ∃ ls : List SlD, ls = [⟨A2, cap2, ss⟩, ⟨A6, cap6, out⟩] := ⟨_, rfl⟩
      have HLS : Hid (ls.length = 2) := by show _ = _; rw [hls]; rfl
      have HCAT : Hid (catF ls = ss ++ out) := by show _ = _; rw [hls]; simp [catF]
      have HALL : Hid (∀ d ∈ ls, Rw H6 d.A 8 fSt d.l) := by
        intro d hd
        rw [hls] at hd
        simp at hd
        rcases hd with rfl | rfl
        · exact HR6.out
        · exact HRX.out
      have HCS : Hid (cellsOf 1 fSl ls = [.slice A2 ss.length cap2, .slice A6 out.length cap6]) := by show _ = _; rw [hls]; rfl
      clear hls
      go_wp2_with fail
      refine wp_region_concV 21 152 (φ8 W7.heap.size qb q (.slice A ps.length cap) (.slice A2 ss.length cap2) (.slice A6 out.length cap6) H6 ls (mayA ps (ss ++ out) q.kind q.text q.purp q.region q.ch q.at_)) (J8 W7.heap.size H6 W7 (mayA ps (ss ++ out) q.kind q.text q.purp q.region q.ch q.at_)) (E8 (mayA ps (ss ++ out) q.kind q.text q.purp q.region q.ch q.at_)) (by kernel_rfl) (by kernel_rfl) (by rfl) ⟨HL7.out.fin, (Below.refl _ _).drew, fun h => by simp at h⟩ φ8_mono (fun i x w hi e h => φ8_none i x w hi (by decide) e h) ?_ ?_
      · intro n o hn ho a W2 L hr hs152 hLs hJ hkn
        replace hs152 : a.tmps.size = 152 := hs152
        have hcs : n = 0 ∨ n = 1 ∨ n = 2 ∨ n = 3 ∨ n = 4 ∨ n = 5 ∨ n = 6 ∨ n = 7 ∨ n = 8 ∨ n = 9 ∨ n = 10 ∨ n = 11 ∨ n = 12 ∨ n = 13 ∨ n = 14 ∨ n = 15 ∨ n = 16 ∨ n = 17 ∨ n = 18 ∨ n = 19 ∨ n = 20 := by omega
        rcases hcs with rfl | rfl | rfl | rfl | rfl | rfl | rfl | rfl | rfl | rfl | rfl | rfl | rfl | rfl | rfl | rfl | rfl | rfl | rfl | rfl | rfl
        · obtain rfl := Option.some.inj ho
          refine OpV.mono (R := fun v w' => φ8 W7.heap.size qb q (.slice A ps.length cap) (.slice A2 ss.length cap2) (.slice A6 out.length cap6) H6 ls (mayA ps (ss ++ out) q.kind q.text q.purp q.region q.ch q.at_) 0 v w' ∧ Below W2.heap.size W2 w') ?_ (fun v w' h => ⟨h.1, hJ.step h.2 (by decide) (by decide) (by decide) (by rw [hs152]; decide) v, E8.of h.2⟩)
          exact ⟨hkn 4 (by decide), Below.refl _ _⟩
        · obtain rfl := Option.some.inj ho
          refine OpV.mono (R := fun v w' => φ8 W7.heap.size qb q (.slice A ps.length cap) (.slice A2 ss.length cap2) (.slice A6 out.length cap6) H6 ls (mayA ps (ss ++ out) q.kind q.text q.purp q.region q.ch q.at_) 1 v w' ∧ Below W2.heap.size W2 w') ?_ (fun v w' h => ⟨h.1, hJ.step h.2 (by decide) (by decide) (by decide) (by rw [hs152]; decide) v, E8.of h.2⟩)
          exact ⟨hkn 5 (by decide), Below.refl _ _⟩
        · obtain rfl := Option.some.inj ho
          refine OpV.mono (R := fun v w' => φ8 W7.heap.size qb q (.slice A ps.length cap) (.slice A2 ss.length cap2) (.slice A6 out.length cap6) H6 ls (mayA ps (ss ++ out) q.kind q.text q.purp q.region q.ch q.at_) 2 v w' ∧ Below W2.heap.size W2 w') ?_ (fun v w' h => ⟨h.1, hJ.step h.2 (by decide) (by decide) (by decide) (by rw [hs152]; decide) v, E8.of h.2⟩)
          exact ⟨hkn 8 (by decide), Below.refl _ _⟩
        · obtain rfl := Option.some.inj ho
          refine OpV.mono (R := fun v w' => φ8 W7.heap.size qb q (.slice A ps.length cap) (.slice A2 ss.length cap2) (.slice A6 out.length cap6) H6 ls (mayA ps (ss ++ out) q.kind q.text q.purp q.region q.ch q.at_) 3 v w' ∧ Below W2.heap.size W2 w') ?_ (fun v w' h => ⟨h.1, hJ.step h.2 (by decide) (by decide) (by decide) (by rw [hs152]; decide) v, E8.of h.2⟩)
          have h1 := slot_of (hkn 57 (by decide) : a.tmps.getD 57 undef = .slice A2 ss.length cap2)
          have h2 := slot_of (hkn 58 (by decide) : a.tmps.getD 58 undef = .slice A6 out.length cap6)
          clear hkn ho
          simp only [OpV, execOp]
          simp [go_sem, h1, h2]
          exact ⟨⟨W2.heap.size, rfl, hJ.2.1.size, heap_alloc_new _ _⟩, new1 _⟩
        · obtain rfl := Option.some.inj ho
          refine OpV.mono (R := fun v w' => φ8 W7.heap.size qb q (.slice A ps.length cap) (.slice A2 ss.length cap2) (.slice A6 out.length cap6) H6 ls (mayA ps (ss ++ out) q.kind q.text q.purp q.region q.ch q.at_) 4 v w' ∧ Below W2.heap.size W2 w') ?_ (fun v w' h => ⟨h.1, hJ.step h.2 (by decide) (by decide) (by decide) (by rw [hs152]; decide) v, E8.of h.2⟩)
          obtain ⟨b, h1, hb0, hh⟩ : ∃ b : Nat, a.tmps.getD 59 undef = .slice (some ⟨b, 0, none⟩) 2 2 ∧ W7.heap.size ≤ b ∧ W2.heap[b]? = some (.cells #[.slice A2 ss.length cap2, .slice A6 out.length cap6] 28 (0, 0)) := hkn 59 (by decide)
          replace h1 := slot_of h1
          have hbn := HL7.out.fin.none_ hb0
          have hrw : Rw (H6.add b (.cells #[.slice A2 ss.length cap2, .slice A6 out.length cap6] 28 (0, 0))) (some ⟨b, 0, none⟩) 1 fSl ls := Rw_blk (T := 28) (by rw [HCS.out]; exact Frz.add_at _ _ _)
          have hcc := concat_St _ (some ⟨b, 0, none⟩) 2 ls W2 (hJ.1.add hh) hrw (fun d hd => (HALL.out d hd).le (Frz.le_add hbn)) (by have := HLS.out; omega) (by rw [HCAT.out, List.length_append]; omega)
          rw [HLS.out] at hcc
          have hsz7 := hJ.2.1.size
          clear hkn ho
          simp only [OpV, execOp]
          simp [go_sem, h1]
          refine hcc.mono ?_
          rintro e w' ⟨⟨v, rfl, hO⟩, hb⟩
          exact ⟨v, rfl, hO.mono hsz7, hb⟩
        · obtain rfl := Option.some.inj ho
          refine OpV.mono (R := fun v w' => φ8 W7.heap.size qb q (.slice A ps.length cap) (.slice A2 ss.length cap2) (.slice A6 out.length cap6) H6 ls (mayA ps (ss ++ out) q.kind q.text q.purp q.region q.ch q.at_) 5 v w' ∧ Below W2.heap.size W2 w') ?_ (fun v w' h => ⟨h.1, hJ.step h.2 (by decide) (by decide) (by decide) (by rw [hs152]; decide) v, E8.of h.2⟩)
          have h1 := slot_of (hkn 6 (by decide) : a.tmps.getD 6 undef = .pointer (some ⟨qb, 0, none⟩))
          clear hkn ho
          simp only [OpV, execOp]
          simp [go_sem, h1]
          exact ⟨rfl, Below.refl _ _⟩
        · obtain rfl := Option.some.inj ho
          refine OpV.mono (R := fun v w' => φ8 W7.heap.size qb q (.slice A ps.length cap) (.slice A2 ss.length cap2) (.slice A6 out.length cap6) H6 ls (mayA ps (ss ++ out) q.kind q.text q.purp q.region q.ch q.at_) 6 v w' ∧ Below W2.heap.size W2 w') ?_ (fun v w' h => ⟨h.1, hJ.step h.2 (by decide) (by decide) (by decide) (by rw [hs152]; decide) v, E8.of h.2⟩)
          have h1 := slot_of (hkn 61 (by decide) : a.tmps.getD 61 undef = .pointer (some ⟨qb, 0, none⟩))
          have x0 : W2.cell? ⟨qb, 0, none⟩ = some (.int .i64 q.kind) := cell_h (hJ.1 _ _ HB6.out) 0 rfl
          have x1 : W2.cell? ⟨qb, 1, none⟩ = some (.string q.text) := cell_h (hJ.1 _ _ HB6.out) 1 rfl
          clear hkn ho
          simp only [OpV, execOp]
          simp [go_sem, h1, x0, x1]
          exact ⟨rfl, Below.refl _ _⟩
        · obtain rfl := Option.some.inj ho
          refine OpV.mono (R := fun v w' => φ8 W7.heap.size qb q (.slice A ps.length cap) (.slice A2 ss.length cap2) (.slice A6 out.length cap6) H6 ls (mayA ps (ss ++ out) q.kind q.text q.purp q.region q.ch q.at_) 7 v w' ∧ Below W2.heap.size W2 w') ?_ (fun v w' h => ⟨h.1, hJ.step h.2 (by decide) (by decide) (by decide) (by rw [hs152]; decide) v, E8.of h.2⟩)
          have h1 := slot_of (hkn 6 (by decide) : a.tmps.getD 6 undef = .pointer (some ⟨qb, 0, none⟩))
          clear hkn ho
          simp only [OpV, execOp]
          simp [go_sem, h1]
          exact ⟨rfl, Below.refl _ _⟩
        · obtain rfl := Option.some.inj ho
          refine OpV.mono (R := fun v w' => φ8 W7.heap.size qb q (.slice A ps.length cap) (.slice A2 ss.length cap2) (.slice A6 out.length cap6) H6 ls (mayA ps (ss ++ out) q.kind q.text q.purp q.region q.ch q.at_) 8 v w' ∧ Below W2.heap.size W2 w') ?_ (fun v w' h => ⟨h.1, hJ.step h.2 (by decide) (by decide) (by decide) (by rw [hs152]; decide) v, E8.of h.2⟩)
          have h1 := slot_of (hkn 63 (by decide) : a.tmps.getD 63 undef = .pointer (some ⟨qb, 2, none⟩))
          have x2 : W2.cell? ⟨qb, 2, none⟩ = some (.string q.purp) := cell_h (hJ.1 _ _ HB6.out) 2 rfl
          clear hkn ho
          simp only [OpV, execOp]
          simp [go_sem, h1, x2]
          exact ⟨rfl, Below.refl _ _⟩
        · obtain rfl := Option.some.inj ho
          refine OpV.mono (R := fun v w' => φ8 W7.heap.size qb q (.slice A ps.length cap) (.slice A2 ss.length cap2) (.slice A6 out.length cap6) H6 ls (mayA ps (ss ++ out) q.kind q.text q.purp q.region q.ch q.at_) 9 v w' ∧ Below W2.heap.size W2 w') ?_ (fun v w' h => ⟨h.1, hJ.step h.2 (by decide) (by decide) (by decide) (by rw [hs152]; decide) v, E8.of h.2⟩)
          have h1 := slot_of (hkn 6 (by decide) : a.tmps.getD 6 undef = .pointer (some ⟨qb, 0, none⟩))
          clear hkn ho
          simp only [OpV, execOp]
          simp [go_sem, h1]
          exact ⟨rfl, Below.refl _ _⟩
        · obtain rfl := Option.some.inj ho
          refine OpV.mono (R := fun v w' => φ8 W7.heap.size qb q (.slice A ps.length cap) (.slice A2 ss.length cap2) (.slice A6 out.length cap6) H6 ls (mayA ps (ss ++ out) q.kind q.text q.purp q.region q.ch q.at_) 10 v w' ∧ Below W2.heap.size W2 w') ?_ (fun v w' h => ⟨h.1, hJ.step h.2 (by decide) (by decide) (by decide) (by rw [hs152]; decide) v, E8.of h.2⟩)
          have h1 := slot_of (hkn 65 (by decide) : a.tmps.getD 65 undef = .pointer (some ⟨qb, 3, none⟩))
          have x3 : W2.cell? ⟨qb, 3, none⟩ = some (.string q.region) := cell_h (hJ.1 _ _ HB6.out) 3 rfl
          clear hkn ho
          simp only [OpV, execOp]
          simp [go_sem, h1, x3]
          exact ⟨rfl, Below.refl _ _⟩
        · obtain rfl := Option.some.inj ho
          refine OpV.mono (R := fun v w' => φ8 W7.heap.size qb q (.slice A ps.length cap) (.slice A2 ss.length cap2) (.slice A6 out.length cap6) H6 ls (mayA ps (ss ++ out) q.kind q.text q.purp q.region q.ch q.at_) 11 v w' ∧ Below W2.heap.size W2 w') ?_ (fun v w' h => ⟨h.1, hJ.step h.2 (by decide) (by decide) (by decide) (by rw [hs152]; decide) v, E8.of h.2⟩)
          have h1 := slot_of (hkn 6 (by decide) : a.tmps.getD 6 undef = .pointer (some ⟨qb, 0, none⟩))
          clear hkn ho
          simp only [OpV, execOp]
          simp [go_sem, h1]
          exact ⟨rfl, Below.refl _ _⟩
        · obtain rfl := Option.some.inj ho
          refine OpV.mono (R := fun v w' => φ8 W7.heap.size qb q (.slice A ps.length cap) (.slice A2 ss.length cap2) (.slice A6 out.length cap6) H6 ls (mayA ps (ss ++ out) q.kind q.text q.purp q.region q.ch q.at_) 12 v w' ∧ Below W2.heap.size W2 w') ?_ (fun v w' h => ⟨h.1, hJ.step h.2 (by decide) (by decide) (by decide) (by rw [hs152]; decide) v, E8.of h.2⟩)
          have h1 := slot_of (hkn 67 (by decide) : a.tmps.getD 67 undef = .pointer (some ⟨qb, 4, none⟩))
          have x4 : W2.cell? ⟨qb, 4, none⟩ = some (.int .i64 q.ch) := cell_h (hJ.1 _ _ HB6.out) 4 rfl
          clear hkn ho
          simp only [OpV, execOp]
          simp [go_sem, h1, x4]
          exact ⟨rfl, Below.refl _ _⟩
        · obtain rfl := Option.some.inj ho
          refine OpV.mono (R := fun v w' => φ8 W7.heap.size qb q (.slice A ps.length cap) (.slice A2 ss.length cap2) (.slice A6 out.length cap6) H6 ls (mayA ps (ss ++ out) q.kind q.text q.purp q.region q.ch q.at_) 13 v w' ∧ Below W2.heap.size W2 w') ?_ (fun v w' h => ⟨h.1, hJ.step h.2 (by decide) (by decide) (by decide) (by rw [hs152]; decide) v, E8.of h.2⟩)
          have h1 := slot_of (hkn 6 (by decide) : a.tmps.getD 6 undef = .pointer (some ⟨qb, 0, none⟩))
          clear hkn ho
          simp only [OpV, execOp]
          simp [go_sem, h1]
          exact ⟨rfl, Below.refl _ _⟩
        · obtain rfl := Option.some.inj ho
          refine OpV.mono (R := fun v w' => φ8 W7.heap.size qb q (.slice A ps.length cap) (.slice A2 ss.length cap2) (.slice A6 out.length cap6) H6 ls (mayA ps (ss ++ out) q.kind q.text q.purp q.region q.ch q.at_) 14 v w' ∧ Below W2.heap.size W2 w') ?_ (fun v w' h => ⟨h.1, hJ.step h.2 (by decide) (by decide) (by decide) (by rw [hs152]; decide) v, E8.of h.2⟩)
          have h1 := slot_of (hkn 69 (by decide) : a.tmps.getD 69 undef = .pointer (some ⟨qb, 5, none⟩))
          have x5 : W2.cell? ⟨qb, 5, none⟩ = some (.int .i64 q.at_) := cell_h (hJ.1 _ _ HB6.out) 5 rfl
          clear hkn ho
          simp only [OpV, execOp]
          simp [go_sem, h1, x5]
          exact ⟨rfl, Below.refl _ _⟩
        · obtain rfl := Option.some.inj ho
          refine OpV.mono (R := fun v w' => φ8 W7.heap.size qb q (.slice A ps.length cap) (.slice A2 ss.length cap2) (.slice A6 out.length cap6) H6 ls (mayA ps (ss ++ out) q.kind q.text q.purp q.region q.ch q.at_) 15 v w' ∧ Below W2.heap.size W2 w') ?_ (fun v w' h => ⟨h.1, hJ.step h.2 (by decide) (by decide) (by decide) (by rw [hs152]; decide) v, E8.of h.2⟩)
          have h1 := slot_of (hkn 56 (by decide) : a.tmps.getD 56 undef = .slice A ps.length cap)
          have hO : Orow W2 W7.heap.size 43 8 fSt (a.tmps.getD 60 undef) (catF ls) := hkn 60 (by decide)
          obtain ⟨A9, cap9, H9, h2, -, p1, p2, hR9, -⟩ := hO.freeze H6
          have le := p2 (fun g hg => HL7.out.fin.none_ (hO.lt hg).1)
          have hin := p1 hJ.1
          replace h2 := slot_of h2
          have h3 := slot_of (hkn 62 (by decide) : a.tmps.getD 62 undef = .agg #[.int .i64 q.kind, .string q.text])
          have h4 := slot_of (hkn 64 (by decide) : a.tmps.getD 64 undef = .string q.purp)
          have h5 := slot_of (hkn 66 (by decide) : a.tmps.getD 66 undef = .string q.region)
          have h6 := slot_of (hkn 68 (by decide) : a.tmps.getD 68 undef = .int .i64 q.ch)
          have h7 := slot_of (hkn 70 (by decide) : a.tmps.getD 70 undef = .int .i64 q.at_)
          rw [HCAT.out] at h2 hR9
          have hmy := may_any H9 (HML6.out.le le) A cap ps A9 cap9 (ss ++ out) q.kind q.text q.purp q.region q.ch q.at_ W2 hin (HP6.out.le le) (by omega) hR9 (by rw [List.length_append]; omega) HSC.out (by have := HQ.out.text; omega) (by have := HQ.out.region; omega)
          rw [HW.out.all0] at hmy
          clear hkn ho hO p1 p2
          simp only [OpV, execOp]
          simp [go_sem, h1, h2, h3, h4, h5, h6, h7]
          simp only [List.length_append] at hmy
          refine hmy.mono ?_
          rintro e w' ⟨rfl, hb⟩
          exact ⟨_, rfl, rfl, hb⟩
        · obtain rfl := Option.some.inj ho
          refine OpV.mono (R := fun v w' => φ8 W7.heap.size qb q (.slice A ps.length cap) (.slice A2 ss.length cap2) (.slice A6 out.length cap6) H6 ls (mayA ps (ss ++ out) q.kind q.text q.purp q.region q.ch q.at_) 16 v w' ∧ Below W2.heap.size W2 w') ?_ (fun v w' h => ⟨h.1, hJ.step h.2 (by decide) (by decide) (by decide) (by rw [hs152]; decide) v, E8.of h.2⟩)
          exact ⟨hkn 71 (by decide), Below.refl _ _⟩
        · obtain rfl := Option.some.inj ho
          refine OpV.mono (R := fun v w' => φ8 W7.heap.size qb q (.slice A ps.length cap) (.slice A2 ss.length cap2) (.slice A6 out.length cap6) H6 ls (mayA ps (ss ++ out) q.kind q.text q.purp q.region q.ch q.at_) 17 v w' ∧ Below W2.heap.size W2 w') ?_ (fun v w' h => ⟨h.1, hJ.step h.2 (by decide) (by decide) (by decide) (by rw [hs152]; decide) v, E8.of h.2⟩)
          have h1 := slot_of (hkn 55 (by decide) : a.tmps.getD 55 undef = .tuple #[ansV (mayA ps (ss ++ out) q.kind q.text q.purp q.region q.ch q.at_), .int .i64 0])
          clear hkn ho
          simp only [OpV, execOp]
          simp [go_sem, h1]
          exact ⟨rfl, Below.refl _ _⟩
        · obtain rfl := Option.some.inj ho
          refine OpV.mono (R := fun v w' => φ8 W7.heap.size qb q (.slice A ps.length cap) (.slice A2 ss.length cap2) (.slice A6 out.length cap6) H6 ls (mayA ps (ss ++ out) q.kind q.text q.purp q.region q.ch q.at_) 18 v w' ∧ Below W2.heap.size W2 w') ?_ (fun v w' h => ⟨h.1, hJ.step h.2 (by decide) (by decide) (by decide) (by rw [hs152]; decide) v, E8.of h.2⟩)
          have h1 := slot_of (hkn 55 (by decide) : a.tmps.getD 55 undef = .tuple #[ansV (mayA ps (ss ++ out) q.kind q.text q.purp q.region q.ch q.at_), .int .i64 0])
          clear hkn ho
          simp only [OpV, execOp]
          simp [go_sem, h1]
          exact ⟨rfl, Below.refl _ _⟩
        · obtain rfl := Option.some.inj ho
          refine OpV.mono (R := fun v w' => φ8 W7.heap.size qb q (.slice A ps.length cap) (.slice A2 ss.length cap2) (.slice A6 out.length cap6) H6 ls (mayA ps (ss ++ out) q.kind q.text q.purp q.region q.ch q.at_) 19 v w' ∧ Below W2.heap.size W2 w') ?_ (fun v w' h => ⟨h.1, hJ.new h.2 (mem_ready.1 hr).1 v, E8.of h.2⟩)
          clear hkn ho
          simp only [OpV, execOp]
          simp [go_sem]
          exact ⟨⟨W2.heap.size, rfl, hJ.2.1.size, Or.inl (heap_alloc_new _ _)⟩, new1 _⟩
        · obtain rfl := Option.some.inj ho
          obtain ⟨b, h1, hb0, hin⟩ : ∃ b : Nat, a.tmps.getD 10 undef = .pointer (some ⟨b, 0, none⟩) ∧ W7.heap.size ≤ b ∧ AnsIn (mayA ps (ss ++ out) q.kind q.text q.purp q.region q.ch q.at_) W2 b := hkn 10 (by decide)
          have h2 : a.tmps.getD 72 undef = ansV (mayA ps (ss ++ out) q.kind q.text q.purp q.region q.ch q.at_) := hkn 72 (by decide)
          have h19 : L.getD 19 false = true := by
            obtain ⟨_, o', ho', hall⟩ := mem_ready.1 hr
            obtain rfl := Option.some.inj ho'
            exact hall { on := 19, ground := Ground.data } (by simp) rfl
          have hbn := HL7.out.fin.none_ hb0
          generalize mayA ps (ss ++ out) q.kind q.text q.purp q.region q.ch q.at_ = an at *
          refine OpV.mono (R := fun v w' => w' = ((W2.setCell ⟨b, 0, none⟩ (.bool an.may)).setCell ⟨b, 1, none⟩ (.int .i64 an.why)).setCell ⟨b, 2, none⟩ (.int .i64 an.no)) ?_ (fun v w' h => ?_)
          · have h1' := slot_of h1
            have h2' := slot_of h2
            have hz : ∃ x y z, W2.heap[b]? = some (.cells #[x, y, z] 37 (0, 0)) := by
              rcases hin with h | h
              · exact ⟨_, _, _, h⟩
              · exact ⟨_, _, _, h⟩
            obtain ⟨x, y, z, hz⟩ := hz
            have c0 : W2.cell? ⟨b, 0, none⟩ = some x := cell_h hz 0 rfl
            have c1 : W2.cell? ⟨b, 1, none⟩ = some y := cell_h hz 1 rfl
            have c2 : W2.cell? ⟨b, 2, none⟩ = some z := cell_h hz 2 rfl
            have f0 := froz_h hz 0
            have f1 := froz_h hz 1
            have f2 := froz_h hz 2
            rw [show ansV an = .agg #[.bool an.may, .int .i64 an.why, .int .i64 an.no] from rfl] at h2'
            clear hkn ho hin hz h1 h2
            simp only [OpV, execOp]
            simp [go_sem, h1', h2', c0, c1, c2, f0, f1, f2]
          · subst h
            refine ⟨trivial, ⟨set3_frz hJ.1 hbn _ _ _, below_set3 hJ.2.1 hb0 _ _ _, fun _ => ⟨by rw [getD_set_ne false (by decide)]; exact h19, b, h1, hb0, ?_⟩⟩, E8.store hin⟩
            rcases hin with h | h
            · exact set3 h _ _ _
            · exact set3 h _ _ _
      · intro yv W9 L9 hL9 hW9 hgt hφ
        have e17 : yv 17 = ansV (mayA ps (ss ++ out) q.kind q.text q.purp q.region q.ch q.at_) := (hφ 17 (by omega)).resolve_right (fun c => (show ¬ ((some 72 : Option Nat) = none) from nofun) c.1)
        have e18 : yv 18 = .int .i64 0 := (hφ 18 (by omega)).resolve_right (fun c => (show ¬ ((some 73 : Option Nat) = none) from nofun) c.1)
        obtain ⟨hI9, hbx, h20⟩ := hW9
        obtain ⟨-, ab, hab, hq1, hq2⟩ := h20 (hL9 20 (by omega))
        have e19 : yv 19 = .pointer (some ⟨ab, 0, none⟩) := (hgt 19 10 rfl).symm.trans hab
        clear hgt hab h20 hL9
        have HGD := Lib.hid HW.out.good
        have HME := Lib.hid (mayA_eq HW.out.all0)
        have HMS := Lib.hid (fun m hm => merged_same (m := m) HW.out.all0 hm)
        rw [← HME.out] at HGD
        generalize mayA ps (ss ++ out) q.kind q.text q.purp q.region q.ch q.at_ = ans at *
        obtain ⟨am, ay, an⟩ := ans
        rw [show ansV ⟨am, ay, an⟩ = .agg #[.bool am, .int .i64 ay, .int .i64 an] from rfl] at e17
        clear hφ HME
        simp only [List.drop_succ_cons, List.drop_zero, List.take_succ_cons, List.take_zero, putAll, Nat.reduceAdd, e17, e18, e19]
        clear e17 e18 e19
        generalize yv 0 = y0
        generalize yv 1 = y1
        generalize yv 2 = y2
        generalize yv 3 = y3
        generalize yv 4 = y4
        generalize yv 5 = y5
        generalize yv 6 = y6
        generalize yv 7 = y7
        generalize yv 8 = y8
        generalize yv 9 = y9
        generalize yv 10 = y10
        generalize yv 11 = y11
        generalize yv 12 = y12
        generalize yv 13 = y13
        generalize yv 14 = y14
        generalize yv 15 = y15
        generalize yv 16 = y16
        have LL9 := HL7.out.call hbx
        obtain ⟨H9, hH9⟩ : ∃ H9, H9 = H6.add ab (.cells #[.bool am, .int .i64 ay, .int .i64 an] 37) := ⟨_, rfl⟩
        have hab : H6 ab = none := HL7.out.fin.none_ hq1
        have le9 : H6.Le H9 := by rw [hH9]; exact Frz.le_add hab
        have HB9 : Hid (H9 ab = some (.cells #[.bool am, .int .i64 ay, .int .i64 an] 37)) := by show _ = _; rw [hH9]; exact Frz.add_at _ _ _
        have HL9 : Hid (Lw w w.heap.size (400 + 20 + 1) H9 W9) := ⟨LL9.st, LL9.bel, LL9.le, by rw [hH9]; exact hI9.add hq2, by rw [hH9, Frz.add_other (by have := HL7.out.lt; omega)]; exact LL9.apart⟩
        have HP9 := Lib.hid (HP6.out.le le9)
        have HML9 := Lib.hid (HML6.out.le le9)
        have HR9 := Lib.hid (HR6.out.le le9)
        have HRX9 := Lib.hid (HRX.out.le le9)
        have HQ9 := Lib.hid (le9 _ _ HB6.out)
        clear hq1 hq2 hI9 hbx LL9 hab le9 hH9 HALL HCS HP6 HML6 HR6 HRX HB6 HL7 HLS HCAT
        go_upto_region 9 with (fail)
        obtain ⟨WC, rfl⟩ : ∃ WC : World, WC = W9 := ⟨_, rfl⟩
        have u0 : WC.cell? ⟨ab, 0, none⟩ = some (.bool am) := cell_h (HL9.out.fin _ _ HB9.out) 0 rfl
        have u1 : WC.cell? ⟨ab, 1, none⟩ = some (.int .i64 ay) := cell_h (HL9.out.fin _ _ HB9.out) 1 rfl
        rcases HGD.out with h | ⟨-, h, h8⟩
        · dsimp only at h
          subst h
          clear HGD
          go_wp2_with fail
          clear u0 u1
          have hsub := HW.out.say1
          have hsub2 := HW.out.say2
          refine (merge_any H9 HML9.out A cap ps A6 cap6 out A2 cap2 ss WC HL9.out.fin HP9.out (by omega) HRX9.out HR9.out (by omega) HSX.out HSZ.out hsub hsub2).mono ?_
          rintro e WD ⟨v1, m, rfl, hO1, hM1, hb1⟩
          have L10 := HL9.out.call hb1
          obtain ⟨A7, cap7, H10, hv1, hle7, p1, p2, hR7, p3, -⟩ := hO1.freeze H9
          subst hv1
          have le10 := p2 (fun g hg => HL9.out.fin.none_ (hO1.lt hg).1)
          have HL10 : Hid (Lw w w.heap.size (400 + 20 + 1) H10 WD) := ⟨L10.st, L10.bel, L10.le, p1 L10.fin, by rw [p3 _ HL9.out.lt]; exact L10.apart⟩
          have HP10 := Lib.hid (HP9.out.le le10)
          have HML10 := Lib.hid (HML9.out.le le10)
          have HR10 := Lib.hid (HR9.out.le le10)
          have HRX10 := Lib.hid (HRX9.out.le le10)
          have HQ10 := Lib.hid (le10 _ _ HQ9.out)
          have HB10 := Lib.hid (le10 _ _ HB9.out)
          have HRM := Lib.hid hR7
          have HM1 := Lib.hid hM1
          clear hb1 hO1 L10 p1 p2 p3 hR7 le10 hM1 HL9 HP9 HML9 HR9 HRX9 HQ9 HB9
          go_wp2_with fail
          refine (merge_any H10 HML10.out A cap ps A2 cap2 ss A6 cap6 out WD HL10.out.fin HP10.out (by omega) HR10.out HRX10.out (by omega) HSZ.out HSX.out hsub2 hsub).mono ?_
          rintro e WE ⟨v2, m2, rfl, hO2, hM2, hb2⟩
          obtain rfl : m = m2 := merge_unique HM1.out hM2 List.perm_append_comm
          have L11 := HL10.out.call hb2
          obtain ⟨A8, cap8, H11, hv2, hle8, p1, p2, hR8, p3, -⟩ := hO2.freeze H10
          subst hv2
          have le11 := p2 (fun g hg => HL10.out.fin.none_ (hO2.lt hg).1)
          have HL11 : Hid (Lw w w.heap.size (400 + 20 + 1) H11 WE) := ⟨L11.st, L11.bel, L11.le, p1 L11.fin, by rw [p3 _ HL10.out.lt]; exact L11.apart⟩
          have HP11 := Lib.hid (HP10.out.le le11)
          have HML11 := Lib.hid (HML10.out.le le11)
          have HQ11 := Lib.hid (le11 _ _ HQ10.out)
          have HB11 := Lib.hid (le11 _ _ HB10.out)
          have HRM11 := Lib.hid (HRM.out.le le11)
          have HRN11 := Lib.hid hR8
          have HM2 := Lib.hid hM2
          have hml : m.length ≤ 14 := by have := hM2.len; rw [List.length_append] at this; omega
          clear hb2 hO2 L11 p1 p2 p3 hR8 le11 hM2 HL10 HP10 HML10 HR10 HRX10 HQ10 HB10 HRM HM1 hsub hsub2
          go_wp2_with fail
          refine (equal_St H11 A7 cap7 A8 cap8 m WE HL11.out.fin HRM11.out HRN11.out (by omega)).mono ?_
          rintro e WF ⟨rfl, hb3⟩
          have HL12 := Lib.hid (HL11.out.call hb3)
          obtain ⟨z1, z2, z3⟩ := HMS.out m HM2.out
          have HSM := Lib.hid (merged_sz HSC.out HM2.out)
          have HMA := Lib.hid (may_any H11 HML11.out A cap ps A7 cap7 m q.kind q.text q.purp q.region q.ch q.at_ WF HL12.out.fin HP11.out (by omega) HRM11.out (by omega) HSM.out (by have := HQ.out.text; omega) (by have := HQ.out.region; omega))
          rw [z1] at HMA
          generalize mayA ps m q.kind q.text q.purp q.region q.ch q.at_ = an2 at *
          obtain ⟨bm, byy, bn⟩ := an2
          dsimp only at z2 z3
          subst z2 z3
          have hq5 := HL12.out.fin _ _ HQ11.out
          have q0 : WF.cell? ⟨qb, 0, none⟩ = some (.int .i64 q.kind) := cell_h (hq5) 0 rfl
          have q1 : WF.cell? ⟨qb, 1, none⟩ = some (.string q.text) := cell_h (hq5) 1 rfl
          have q2 : WF.cell? ⟨qb, 2, none⟩ = some (.string q.purp) := cell_h (hq5) 2 rfl
          have q3 : WF.cell? ⟨qb, 3, none⟩ = some (.string q.region) := cell_h (hq5) 3 rfl
          have q4 : WF.cell? ⟨qb, 4, none⟩ = some (.int .i64 q.ch) := cell_h (hq5) 4 rfl
          have q5 : WF.cell? ⟨qb, 5, none⟩ = some (.int .i64 q.at_) := cell_h (hq5) 5 rfl
          clear hq5 hb3 z1 HL11
          go_wp2_with fail
          refine HMA.out.mono ?_
          rintro e WG ⟨rfl, hb4⟩
          rw [show ∀ x, ansV ⟨x, byy, bn⟩ = .agg #[.bool x, .int .i64 byy, .int .i64 bn] from fun _ => rfl]
          have L13 := HL12.out.call hb4
          obtain ⟨H14, le14, hb14, L14⟩ := L13.put (.cells #[.bool true, .int .i64 byy, .int .i64 bn] 37)
          have HL14 := Lib.hid L14
          have HML14 := Lib.hid (HML11.out.le le14)
          have HB14 := Lib.hid hb14
          have HB15 := Lib.hid (le14 _ _ HB11.out)
          clear q0 q1 q2 q3 q4 q5 hb4 L13 le14 hb14 L14 HMA HL12
          go_upto_region 16 with (fail)
          generalize WG.alloc (.cells #[.bool true, .int .i64 byy, .int .i64 bn] 37) = WH at *
          generalize WG.heap.size = bb at *
          have u0 : WH.cell? ⟨ab, 0, none⟩ = some (.bool true) := cell_h (HL14.out.fin _ _ HB15.out) 0 rfl
          have u1 : WH.cell? ⟨ab, 1, none⟩ = some (.int .i64 byy) := cell_h (HL14.out.fin _ _ HB15.out) 1 rfl
          have t0 : WH.cell? ⟨bb, 0, none⟩ = some (.bool true) := cell_h (HL14.out.fin _ _ HB14.out) 0 rfl
          have t1 : WH.cell? ⟨bb, 1, none⟩ = some (.int .i64 byy) := cell_h (HL14.out.fin _ _ HB14.out) 1 rfl
          go_wp2_with fail
          refine (consents_any H14 HML14.out WH HL14.out.fin).mono ?_
          rintro e WI ⟨rfl, hb9⟩
          have HF := Lib.hid (HL14.out.call hb9).bel
          clear hb9
          go_wp2_with fail
          go_ret
          exact ⟨rfl, HF.out⟩
        · dsimp only at h h8
          subst h h8
          clear HGD
          go_wp2_with fail
          clear u0 u1
          have hsub := HW.out.say1
          have hsub2 := HW.out.say2
          refine (merge_any H9 HML9.out A cap ps A6 cap6 out A2 cap2 ss WC HL9.out.fin HP9.out (by omega) HRX9.out HR9.out (by omega) HSX.out HSZ.out hsub hsub2).mono ?_
          rintro e WD ⟨v1, m, rfl, hO1, hM1, hb1⟩
          have L10 := HL9.out.call hb1
          obtain ⟨A7, cap7, H10, hv1, hle7, p1, p2, hR7, p3, -⟩ := hO1.freeze H9
          subst hv1
          have le10 := p2 (fun g hg => HL9.out.fin.none_ (hO1.lt hg).1)
          have HL10 : Hid (Lw w w.heap.size (400 + 20 + 1) H10 WD) := ⟨L10.st, L10.bel, L10.le, p1 L10.fin, by rw [p3 _ HL9.out.lt]; exact L10.apart⟩
          have HP10 := Lib.hid (HP9.out.le le10)
          have HML10 := Lib.hid (HML9.out.le le10)
          have HR10 := Lib.hid (HR9.out.le le10)
          have HRX10 := Lib.hid (HRX9.out.le le10)
          have HQ10 := Lib.hid (le10 _ _ HQ9.out)
          have HB10 := Lib.hid (le10 _ _ HB9.out)
          have HRM := Lib.hid hR7
          have HM1 := Lib.hid hM1
          clear hb1 hO1 L10 p1 p2 p3 hR7 le10 hM1 HL9 HP9 HML9 HR9 HRX9 HQ9 HB9
          go_wp2_with fail
          refine (merge_any H10 HML10.out A cap ps A2 cap2 ss A6 cap6 out WD HL10.out.fin HP10.out (by omega) HR10.out HRX10.out (by omega) HSZ.out HSX.out hsub2 hsub).mono ?_
          rintro e WE ⟨v2, m2, rfl, hO2, hM2, hb2⟩
          obtain rfl : m = m2 := merge_unique HM1.out hM2 List.perm_append_comm
          have L11 := HL10.out.call hb2
          obtain ⟨A8, cap8, H11, hv2, hle8, p1, p2, hR8, p3, -⟩ := hO2.freeze H10
          subst hv2
          have le11 := p2 (fun g hg => HL10.out.fin.none_ (hO2.lt hg).1)
          have HL11 : Hid (Lw w w.heap.size (400 + 20 + 1) H11 WE) := ⟨L11.st, L11.bel, L11.le, p1 L11.fin, by rw [p3 _ HL10.out.lt]; exact L11.apart⟩
          have HP11 := Lib.hid (HP10.out.le le11)
          have HML11 := Lib.hid (HML10.out.le le11)
          have HQ11 := Lib.hid (le11 _ _ HQ10.out)
          have HB11 := Lib.hid (le11 _ _ HB10.out)
          have HRM11 := Lib.hid (HRM.out.le le11)
          have HRN11 := Lib.hid hR8
          have HM2 := Lib.hid hM2
          have hml : m.length ≤ 14 := by have := hM2.len; rw [List.length_append] at this; omega
          clear hb2 hO2 L11 p1 p2 p3 hR8 le11 hM2 HL10 HP10 HML10 HR10 HRX10 HQ10 HB10 HRM HM1 hsub hsub2
          go_wp2_with fail
          refine (equal_St H11 A7 cap7 A8 cap8 m WE HL11.out.fin HRM11.out HRN11.out (by omega)).mono ?_
          rintro e WF ⟨rfl, hb3⟩
          have HL12 := Lib.hid (HL11.out.call hb3)
          obtain ⟨z1, z2, z3⟩ := HMS.out m HM2.out
          have HSM := Lib.hid (merged_sz HSC.out HM2.out)
          have HMA := Lib.hid (may_any H11 HML11.out A cap ps A7 cap7 m q.kind q.text q.purp q.region q.ch q.at_ WF HL12.out.fin HP11.out (by omega) HRM11.out (by omega) HSM.out (by have := HQ.out.text; omega) (by have := HQ.out.region; omega))
          rw [z1] at HMA
          generalize mayA ps m q.kind q.text q.purp q.region q.ch q.at_ = an2 at *
          obtain ⟨bm, byy, bn⟩ := an2
          dsimp only at z2 z3
          subst z2 z3
          have hq5 := HL12.out.fin _ _ HQ11.out
          have q0 : WF.cell? ⟨qb, 0, none⟩ = some (.int .i64 q.kind) := cell_h (hq5) 0 rfl
          have q1 : WF.cell? ⟨qb, 1, none⟩ = some (.string q.text) := cell_h (hq5) 1 rfl
          have q2 : WF.cell? ⟨qb, 2, none⟩ = some (.string q.purp) := cell_h (hq5) 2 rfl
          have q3 : WF.cell? ⟨qb, 3, none⟩ = some (.string q.region) := cell_h (hq5) 3 rfl
          have q4 : WF.cell? ⟨qb, 4, none⟩ = some (.int .i64 q.ch) := cell_h (hq5) 4 rfl
          have q5 : WF.cell? ⟨qb, 5, none⟩ = some (.int .i64 q.at_) := cell_h (hq5) 5 rfl
          clear hq5 hb3 z1 HL11
          go_wp2_with fail
          refine HMA.out.mono ?_
          rintro e WG ⟨rfl, hb4⟩
          rw [show ∀ x, ansV ⟨x, 8, bn⟩ = .agg #[.bool x, .int .i64 8, .int .i64 bn] from fun _ => rfl]
          have L13 := HL12.out.call hb4
          obtain ⟨H14, le14, hb14, L14⟩ := L13.put (.cells #[.bool false, .int .i64 8, .int .i64 bn] 37)
          have HL14 := Lib.hid L14
          have HML14 := Lib.hid (HML11.out.le le14)
          have HB14 := Lib.hid hb14
          have HB15 := Lib.hid (le14 _ _ HB11.out)
          clear q0 q1 q2 q3 q4 q5 hb4 L13 le14 hb14 L14 HMA HL12
          go_upto_region 16 with (fail)
          generalize WG.alloc (.cells #[.bool false, .int .i64 8, .int .i64 bn] 37) = WH at *
          generalize WG.heap.size = bb at *
          have u0 : WH.cell? ⟨ab, 0, none⟩ = some (.bool false) := cell_h (HL14.out.fin _ _ HB15.out) 0 rfl
          have u1 : WH.cell? ⟨ab, 1, none⟩ = some (.int .i64 8) := cell_h (HL14.out.fin _ _ HB15.out) 1 rfl
          have t0 : WH.cell? ⟨bb, 0, none⟩ = some (.bool false) := cell_h (HL14.out.fin _ _ HB14.out) 0 rfl
          have t1 : WH.cell? ⟨bb, 1, none⟩ = some (.int .i64 8) := cell_h (HL14.out.fin _ _ HB14.out) 1 rfl
          go_wp2_with fail
          refine (consents_any H14 HML14.out WH HL14.out.fin).mono ?_
          rintro e WI ⟨rfl, hb9⟩
          have HF := Lib.hid (HL14.out.call hb9).bel
          clear hb9
          go_wp2_with fail
          go_ret
          exact ⟨rfl, HF.out⟩
    · have hout : out = [] := HER.out her
      subst hout
      have k1 : (er != 0) = true := by simpa using her
      clear her HER HOK
      go_wp2_with fail
      refine (consents_any H6 HML6.out W7 HL7.out.fin).mono ?_
      rintro e W8 ⟨rfl, hb⟩
      have HF := Lib.hid (HL7.out.call hb).bel
      clear hb
      go_wp2_with fail
      go_ret
      exact ⟨rfl, HF.out⟩
end Go.Proofs.YtbhccicibmcafaaGreatDoor
