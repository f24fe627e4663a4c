/- The periods are the answers of all moments, one after the other: the law returns true. -/
import Derived.Test.YtbhccicibmcafaaGreatDoorGK
namespace Go.Proofs.YtbhccicibmcafaaGreatDoor
set_option linter.unusedVariables false
open Go.RowKit
theorem Lw.less {w W : World} {bs K : Nat} {H H' : Frz} (h : Lw w bs K H' W) (hl : H.Le H') : Lw w bs K H W :=
  ⟨h.st, h.bel, h.le, h.fin.le hl, by
    cases e : H bs with
    | none => rfl
    | some o => (have := hl _ _ e; rw [h.apart] at this; cases this)⟩
theorem slot_of {a : Act} {s : Nat} {v : Value} (h : a.tmps.getD s undef = v) : a.tmps[s]?.getD undef = v := by rw [← Array.getD_eq_getD_getElem?]; exact h
def φ14 (bs vb : Nat) (p : PerD) (i : Nat) (v : Value) (w : World) : Prop :=
  match i with
  | 0 => v = .pointer (some ⟨vb, 0, none⟩)
  | 1 => v = .pointer (some ⟨vb, 0, none⟩)
  | 2 => v = .int .i64 p.from_
  | 3 => v = .pointer (some ⟨vb, 0, none⟩)
  | 4 => v = .pointer (some ⟨vb, 1, none⟩)
  | 5 => v = .int .i64 p.upto_
  | 6 => v = .int .i64 (p.upto_ - 1)
  | 7 => v = .pointer (some ⟨vb, 0, none⟩)
  | 8 => v = .pointer (some ⟨vb, 0, none⟩)
  | 9 => v = .int .i64 p.from_
  | 10 => v = .pointer (some ⟨bs, 0, none⟩)
  | 11 => v = .pointer (some ⟨vb, 0, none⟩)
  | 12 => v = .pointer (some ⟨vb, 1, none⟩)
  | 13 => v = .int .i64 p.upto_
  | 14 => v = .pointer (some ⟨vb, 0, none⟩)
  | 15 => v = .pointer (some ⟨vb, 0, none⟩)
  | 16 => v = .int .i64 p.from_
  | 17 => v = .int .i64 (p.upto_ - p.from_)
  | 18 => ∃ r : Int, v = .int .i64 r ∧ 0 ≤ r ∧ r < p.upto_ - p.from_
  | 19 => ∃ c : Int, v = .int .i64 c ∧ p.from_ ≤ c ∧ c < p.upto_
  | 20 => ∃ (c : Int) (mb : Nat), v = .slice (some ⟨mb, 0, none⟩) 3 3 ∧ (p.from_ ≤ c ∧ c < p.upto_) ∧ mb ≠ bs ∧ w.heap[mb]? = some (.cells #[.int .i64 p.from_, .int .i64 (p.upto_ - 1), .int .i64 c] 3 (0, 0))
  | 21 => v = .int .i64 3
  | _ => v = .int .i64 0
theorem φ14_mono {bs vb : Nat} {p : PerD} (i : Nat) (x : Value) (w w' : World) (hi : i < 23) (e : w.grownBy w' (some bs)) (h : φ14 bs vb p i x w) : φ14 bs vb p i x w' := by
  match i, hi, h with
  | 0, _, h => exact h
  | 1, _, h => exact h
  | 2, _, h => exact h
  | 3, _, h => exact h
  | 4, _, h => exact h
  | 5, _, h => exact h
  | 6, _, h => exact h
  | 7, _, h => exact h
  | 8, _, h => exact h
  | 9, _, h => exact h
  | 10, _, h => exact h
  | 11, _, h => exact h
  | 12, _, h => exact h
  | 13, _, h => exact h
  | 14, _, h => exact h
  | 15, _, h => exact h
  | 16, _, h => exact h
  | 17, _, h => exact h
  | 18, _, h => exact h
  | 19, _, h => exact h
  | 20, _, ⟨c, mb, h1, h2, h3, h4⟩ => exact ⟨c, mb, h1, h2, h3, (e.block mb (lt_of_heap h4) (fun k => h3 (by injection k))).trans h4⟩
  | 21, _, h => exact h
  | 22, _, h => exact h
  | n + 23, hi, _ => exact absurd hi (by omega)
theorem of_three {a b c : Int} {j : Nat} (hj : j < 3) (P : Int → Prop) (h1 : P a) (h2 : P b) (h3 : P c) : P ([a, b, c][j]'hj) := by
  match j, hj with
  | 0, _ => exact h1
  | 1, _ => exact h2
  | 2, _ => exact h3
set_option maxHeartbeats 8000000 in
set_option maxRecDepth 100000 in
theorem periodsAreAnswers_walk (a0 : Option Addr) (len0 cap0 : Nat) (z0 : List Int) (w : World) (w0 : IsRow .i64 w a0 len0 cap0 z0) (hG : GlobOk w) :
    Calls Tryz.prog 6 #[.slice a0 len0 cap0] w fun e w' => e = .returned (.bool true) ∧ Below w.heap.size w w' := by
  have L := Lw.whole w0
  have HG := Lib.hid hG
  clear hG w0
  go_enter Tryz.func6, Tryz.ntmps6
  go_wp2_with fail
  refine (L.rightPolicy (by omega)).mono ?_
  rintro e W1 ⟨A, cap, ps, H1, rfl, L1, le1, hP, hpe, hp0, hp3, hpc⟩
  have HL1 := Lib.hid L1
  have HP := Lib.hid hP
  have HPE := Lib.hid hpe
  have HPO := Lib.hid (HG.out.pool.le le1)
  have HML := Lib.hid (HG.out.mlen.le le1)
  clear L L1 hP hpe le1 HG
  go_wp2_with fail
  refine (HL1.out.range 1 12 (by omega) (by omega) (by omega) (by omega)).mono ?_
  rintro e W2 ⟨m, rfl, m1, m2, L2, -, -⟩
  obtain ⟨m, rfl⟩ := Int.eq_ofNat_of_zero_le (show 0 ≤ m by omega)
  have HL2 := Lib.hid L2
  clear L2 HL1
  go_wp2_with fail
  refine (HL2.out.rightStatements (by omega) HPO.out A cap ps HP.out HPE.out hp0 (by omega) m (by omega)).mono ?_
  rintro e W3 ⟨A2, cap2, ss, H3, rfl, L3, le3, hR, hse, hsz, hsl, hsc⟩
  have HL3 := Lib.hid (L3.more (K' := 400) (by omega))
  have HP3 := Lib.hid (HP.out.le le3)
  have HPO3 := Lib.hid (HPO.out.le le3)
  have HML3 := Lib.hid (HML.out.le le3)
  have HR3 := Lib.hid hR
  have HSE := Lib.hid hse
  have HSZ := Lib.hid hsz
  have hs14 : ss.length ≤ 14 := by omega
  clear L3 le3 hR hse hsz hsl HL2 HP HPO HML
  go_wp2_with fail
  refine (HL3.out.question HPO3.out (by omega) A cap ps HP3.out hp0 (by omega)).mono ?_
  rintro e W4 ⟨q, rfl, hq, L4, -⟩
  obtain ⟨H5, le5, hb5, L5⟩ := L4.put (.cells #[.int .i64 q.kind, .string q.text, .string q.purp, .string q.region, .int .i64 q.ch, .int .i64 q.at_] 34)
  have HL5 := Lib.hid L5
  have HQ := Lib.hid hq
  have HP5 := Lib.hid (HP3.out.le le5)
  have HML5 := Lib.hid (HML3.out.le le5)
  have HR5 := Lib.hid (HR3.out.le le5)
  have HB5 := Lib.hid hb5
  clear hq le5 hb5 L5 L4 HL3 HP3 HPO3 HML3 HR3
  go_upto_region 4 with (fail)
  generalize W4.alloc (.cells #[.int .i64 q.kind, .string q.text, .string q.purp, .string q.region, .int .i64 q.ch, .int .i64 q.at_] 34) = W5 at *
  have hq5 := HL5.out.fin _ _ HB5.out
  have q0 : W5.cell? ⟨W4.heap.size, 0, none⟩ = some (.int .i64 q.kind) := cell_h hq5 0 rfl
  have q1 : W5.cell? ⟨W4.heap.size, 1, none⟩ = some (.string q.text) := cell_h hq5 1 rfl
  have q2 : W5.cell? ⟨W4.heap.size, 2, none⟩ = some (.string q.purp) := cell_h hq5 2 rfl
  have q3 : W5.cell? ⟨W4.heap.size, 3, none⟩ = some (.string q.region) := cell_h hq5 3 rfl
  have q4 : W5.cell? ⟨W4.heap.size, 4, none⟩ = some (.int .i64 q.ch) := cell_h hq5 4 rfl
  have q5 : W5.cell? ⟨W4.heap.size, 5, none⟩ = some (.int .i64 q.at_) := cell_h hq5 5 rfl
  clear hq5
  have HPX := Lib.hid (fun h => per_ok (ps := ps) (ss := ss) (kind := q.kind) (text := q.text) (purp := q.purp) (region := q.region) (ch := q.ch) h)
  have hxl := perX_len (ps := ps) (ss := ss) q.kind q.text q.purp q.region q.ch
  have hx0 := perX_pos ps ss q.kind q.text q.purp q.region q.ch
  have HAE := Lib.hid (fun (h : allErr ps ss [⟨q.kind, q.text⟩] 1 q.purp q.region q.ch 0 = 0) m (hm : 0 ≤ m ∧ m ≤ 4321439) => allErr_any (b := m) h hm)
  have HPE5 := Lib.hid (periods_any H5 HML5.out A cap ps A2 cap2 ss q.kind q.text q.purp q.region q.ch W5 HL5.out.fin HP5.out (by omega) HR5.out (by omega) HSZ.out (by have := HQ.out.text; omega) (by have := HQ.out.region; omega))
  go_wp2_with fail
  refine HPE5.out.mono ?_
  rintro e W6 ⟨v, rfl, hO, hb⟩
  clear q0 q1 q2 q3 q4 q5 HPE5
  by_cases hae : allErr ps ss [⟨q.kind, q.text⟩] 1 q.purp q.region q.ch 0 = 0
  rotate_left
  · rw [perV_bad hae] at hO
    obtain ⟨Ax, cx, hvx, hcx⟩ := hO.slice
    subst hvx
    have HL6 := Lib.hid (HL5.out.call hb)
    generalize allErr ps ss [⟨q.kind, q.text⟩] 1 q.purp q.region q.ch 0 = ae at *
    have k1 : (ae != 0) = true := by simpa using hae
    clear hae hO hb HAE HPX
    simp only [List.length_nil]
    go_wp2_with fail
    refine (consents_any H5 HML5.out W6 HL6.out.fin).mono ?_
    rintro e W14 ⟨rfl, hb12⟩
    have HF := Lib.hid (HL6.out.call hb12).bel
    clear hb12
    go_wp2_with fail
    go_ret
    exact ⟨rfl, HF.out⟩
  · have HXA := Lib.hid (HPX.out hae)
    have HAL := Lib.hid (HAE.out hae)
    rw [hae, perV_zero] at hO
    rw [hae]
    have hO2 : Orow W6 W5.heap.size 61 5 fPer v (perX ps ss q.kind q.text q.purp q.region q.ch) := hO
    have HPO2 : Hid (∀ (x : List PerD) i v, PerOk ps ss q.kind q.text q.purp q.region q.ch x i v → ∀ m, v.from_ ≤ m → m < v.upto_ → mayA ps ss q.kind q.text q.purp q.region q.ch m = v.a ∧ allErr ps ss [⟨q.kind, q.text⟩] 1 q.purp q.region q.ch m = 0 ∧ nextV (answerF (termF ps q.purp q.region q.ch) q.purp (saidF ss q.kind q.text q.ch)) (momF ((termF ps q.purp q.region q.ch).getD zeroTe) q.purp (saidF ss q.kind q.text q.ch)) m 0 = v.upto_) := fun x i v h => h.all
    generalize perX ps ss q.kind q.text q.purp q.region q.ch = x at *
    obtain ⟨Ax, cx, Hx, hvx, hcx, p1, p2, hRx, p3, -⟩ := hO2.freeze H5
    subst hvx
    have lex := p2 (fun g hg => HL5.out.fin.none_ (hO2.lt hg).1)
    have L6 := HL5.out.call hb
    have HL6 : Hid (Lw w w.heap.size 600 Hx W6) := ⟨L6.st.more (by omega), L6.bel, L6.le, p1 L6.fin, by rw [p3 _ HL5.out.lt]; exact L6.apart⟩
    have HP6 := Lib.hid (HP5.out.le lex)
    have HML6 := Lib.hid (HML5.out.le lex)
    have HR6 := Lib.hid (HR5.out.le lex)
    have HQ6 := Lib.hid (lex _ _ HB5.out)
    have HRX := Lib.hid hRx
    clear hae hO hO2 hb p1 p2 p3 hRx lex L6 HL5 HP5 HML5 HR5 HB5 HAE HPX
    go_wp2_with fail
    go_loopw [9, 10, 11, 13, 14, 15, 16, 17, 55] (fun a _ _ _ _ _ _ _ t wr => ∃ i : Nat, i ≤ x.length ∧ t = .int .i64 i ∧ a = .int .i64 (atF x i) ∧ Hid (Lw w w.heap.size (600 + 30 * i) Hx wr)) (fun _ _ _ _ _ _ _ _ t _ => x.length - (intOf t).toNat)
    case atStart => exact ⟨0, by omega, rfl, rfl, HL6⟩
    case round =>
      obtain ⟨i, hi, rfl, rfl, hL⟩ := hrel
      clear HL6
      by_cases hlt : i < x.length
      · have hok := HXA.out i hlt
        obtain ⟨hb0, hb1, hb2⟩ := hok.bd
        have HFR := Lib.hid hok.from_
        have HDF := Lib.hid hok.differ
        have HALL := Lib.hid (HPO2.out x i _ hok)
        have HNX := Lib.hid (atF_next x hlt)
        obtain ⟨b, off, hAx, hbl, hc⟩ := HRX.out.at_ hL.out.fin hlt (by omega)
        have hc2 : 0 < i → ∃ pa : AnsD, (x.getD (i - 1) x[i]).a = pa ∧ ∀ W, Below wr.heap.size wr W → W.cell? ⟨b, off + (i - 1) * 5 + 2, none⟩ = some (.bool pa.may) ∧ W.cell? ⟨b, off + (i - 1) * 5 + 3, none⟩ = some (.int .i64 pa.why) ∧ W.cell? ⟨b, off + (i - 1) * 5 + 4, none⟩ = some (.int .i64 pa.no) := by
          intro h0
          refine ⟨_, rfl, fun W hW => ?_⟩
          obtain ⟨b', off', e', _, hc'⟩ := HRX.out.at_ (hL.out.fin.below hW) (show i - 1 < x.length by omega) (by omega)
          rw [hAx] at e'
          injection e' with e'
          injection e' with e1 e2
          subst e1 e2
          rw [List.getD_eq_getElem?_getD, List.getElem?_eq_getElem (show i - 1 < x.length by omega)]
          exact ⟨hc' 2 (by omega), hc' 3 (by omega), hc' 4 (by omega)⟩
        subst hAx
        have c0 : wr.cell? ⟨b, off + i * 5, none⟩ = some (.int .i64 x[i].from_) := hc 0 (by omega)
        have c1 : wr.cell? ⟨b, off + i * 5 + 1, none⟩ = some (.int .i64 x[i].upto_) := hc 1 (by omega)
        have c2 : wr.cell? ⟨b, off + i * 5 + 2, none⟩ = some (.bool x[i].a.may) := hc 2 (by omega)
        have c3 : wr.cell? ⟨b, off + i * 5 + 3, none⟩ = some (.int .i64 x[i].a.why) := hc 3 (by omega)
        have c4 : wr.cell? ⟨b, off + i * 5 + 4, none⟩ = some (.int .i64 x[i].a.no) := hc 4 (by omega)
        have HC2 := Lib.hid hc2
        clear hc hc2 hok
        generalize hp : x[i] = p at *
        clear hp
        obtain ⟨H7, le7, hvb7, L7⟩ := hL.out.put (.cells #[.int .i64 p.from_, .int .i64 p.upto_, .bool p.a.may, .int .i64 p.a.why, .int .i64 p.a.no] 61)
        have HL7 := Lib.hid L7
        have HLE7 := Lib.hid le7
        have HVB := Lib.hid hvb7
        have HQ7 := Lib.hid (le7 _ _ HQ6.out)
        have HBW := Lib.hid (new1 (w := wr) (.cells #[.int .i64 p.from_, .int .i64 p.upto_, .bool p.a.may, .int .i64 p.a.why, .int .i64 p.a.no] 61))
        have hvl : wr.heap.size ≤ (wr.alloc (.cells #[.int .i64 p.from_, .int .i64 p.upto_, .bool p.a.may, .int .i64 p.a.why, .int .i64 p.a.no] 61)).heap.size := by simp
        clear L7 le7 hvb7 hL
        go_upto_region 11 with (fail)
        clear c0 c1 c2 c3 c4
        generalize wr.alloc (.cells #[.int .i64 p.from_, .int .i64 p.upto_, .bool p.a.may, .int .i64 p.a.why, .int .i64 p.a.no] 61) = W7 at *
        generalize wr.heap.size = vb at *
        have v0 : W7.cell? ⟨vb, 0, none⟩ = some (.int .i64 p.from_) := cell_h (HL7.out.fin _ _ HVB.out) 0 rfl
        have v1 : W7.cell? ⟨vb, 1, none⟩ = some (.int .i64 p.upto_) := cell_h (HL7.out.fin _ _ HVB.out) 1 rfl
        have v2 : W7.cell? ⟨vb, 2, none⟩ = some (.bool p.a.may) := cell_h (HL7.out.fin _ _ HVB.out) 2 rfl
        have v3 : W7.cell? ⟨vb, 3, none⟩ = some (.int .i64 p.a.why) := cell_h (HL7.out.fin _ _ HVB.out) 3 rfl
        have v4 : W7.cell? ⟨vb, 4, none⟩ = some (.int .i64 p.a.no) := cell_h (HL7.out.fin _ _ HVB.out) 4 rfl
        have K0 := lift_cell v0
        have K1 := lift_cell v1
        have K2 := lift_cell v2
        have K3 := lift_cell v3
        have K4 := lift_cell v4
        have hfr := HFR.out
        have hu9 : p.upto_ - p.from_ ≤ 4321440 := by omega
        have n2 : decide (p.upto_ ≤ p.from_) = false := by simp; omega
        have nx : ((p.from_ : Int) != atF x i) = false := by rw [hfr]; simp
        clear hfr
        by_cases hi0 : i = 0
        · have g0 : decide ((0 : Int) < (i : Int)) = false := by simp; omega
          have HI0 := Lib.hid hi0
          clear hi0
          (refine wp_region_det 28 174 (fun W => Below (W7).heap.size (W7) W) (by kernel_rfl) (by kernel_rfl) (by rfl) (Below.refl _ _).drew ?_; simp only [List.take_succ_cons, List.take_zero, List.drop_succ_cons, List.drop_zero])
          iterate 4 (refine detSeq_op rfl ?_ (fun W hW => ?_) ?_; rotate_left; (focus simp only [OpV]; go_simp; first | exact rfl | exact ⟨rfl, hW⟩))
          (refine detSeq_op rfl (.bool false) (fun W hW => ?_) ?_; focus (simp only [OpV]; go_simp; try (first | exact rfl | exact hW | exact ⟨rfl, hW⟩ | exact HFR.out | exact ⟨HFR.out, hW⟩ | exact HI0.out | exact ⟨HI0.out, hW⟩ | omega | exact ⟨by omega, hW⟩)))
          iterate 1 (refine detSeq_op rfl ?_ (fun W hW => ?_) ?_; rotate_left; (focus simp only [OpV]; go_simp; first | exact rfl | exact ⟨rfl, hW⟩))
          iterate 6 (refine detSeq_yes (by kernel_rfl) ?_ (fun W hW => ?_) ?_; rotate_left; (focus simp only [OpV]; go_simp; first | exact rfl | exact ⟨rfl, hW⟩))
          (refine detSeq_yes (by kernel_rfl) (.bool false) (fun W hW => ?_) ?_; focus (simp only [OpV]; go_simp; try (first | exact rfl | exact hW | exact ⟨rfl, hW⟩ | exact HFR.out | exact ⟨HFR.out, hW⟩ | exact HI0.out | exact ⟨HI0.out, hW⟩ | omega | exact ⟨by omega, hW⟩)))
          iterate 2 (refine detSeq_op rfl ?_ (fun W hW => ?_) ?_; rotate_left; (focus simp only [OpV]; go_simp; first | exact rfl | exact ⟨rfl, hW⟩))
          iterate 1 (refine detSeq_yes (by kernel_rfl) ?_ (fun W hW => ?_) ?_; rotate_left; (focus simp only [OpV]; go_simp; first | exact rfl | exact ⟨rfl, hW⟩))
          (refine detSeq_yes (by kernel_rfl) (.bool false) (fun W hW => ?_) ?_; focus (simp only [OpV]; go_simp; try (first | exact rfl | exact hW | exact ⟨rfl, hW⟩ | exact HFR.out | exact ⟨HFR.out, hW⟩ | exact HI0.out | exact ⟨HI0.out, hW⟩ | omega | exact ⟨by omega, hW⟩)))
          iterate 1 (refine detSeq_yes (by kernel_rfl) ?_ (fun W hW => ?_) ?_; rotate_left; (focus simp only [OpV]; go_simp; first | exact rfl | exact ⟨rfl, hW⟩))
          iterate 9 (refine detSeq_no (by kernel_rfl) ?_)
          iterate 1 (refine detSeq_yes (by kernel_rfl) ?_ (fun W hW => ?_) ?_; rotate_left; (focus simp only [OpV]; go_simp; first | exact rfl | exact ⟨rfl, hW⟩))
          refine detSeq_nil (fun W8 hW8 => ?_)
          have HL8 := Lib.hid (HL7.out.call hW8)
          clear K0 K1 K2 K3 K4 hW8 HL7 v0 v1 v2 v3 v4 HC2 HDF nx
          have v0 : W8.cell? ⟨vb, 0, none⟩ = some (.int .i64 p.from_) := cell_h (HL8.out.fin _ _ HVB.out) 0 rfl
          have v1 : W8.cell? ⟨vb, 1, none⟩ = some (.int .i64 p.upto_) := cell_h (HL8.out.fin _ _ HVB.out) 1 rfl
          have v2 : W8.cell? ⟨vb, 2, none⟩ = some (.bool p.a.may) := cell_h (HL8.out.fin _ _ HVB.out) 2 rfl
          have v3 : W8.cell? ⟨vb, 3, none⟩ = some (.int .i64 p.a.why) := cell_h (HL8.out.fin _ _ HVB.out) 3 rfl
          have v4 : W8.cell? ⟨vb, 4, none⟩ = some (.int .i64 p.a.no) := cell_h (HL8.out.fin _ _ HVB.out) 4 rfl
          go_upto_region 14 with (fail)
          clear v0 v1 v2 v3 v4
          have e2 : IntKind.i64.wrap (p.upto_ - p.from_) = p.upto_ - p.from_ := IntWalk.i64_in _ (by omega)
          have e3 : IntKind.i64.wrap (p.upto_ - 1) = p.upto_ - 1 := IntWalk.i64_in _ (by omega)
          refine C0.wp_region_conc 23 174 (φ14 w.heap.size vb p) (fun k W => Lw w w.heap.size (600 + 30 * i + k) H7 W) (fun a b => a.grownBy b (some w.heap.size)) (by kernel_rfl) (by kernel_rfl) (by rfl) (HL8.out.call (Below.refl _ _).drew) φ14_mono ?_ ?_
          · intro n o hn ho a W2 kk hkk hJ hkn
            have hcs : n = 0 ∨ n = 1 ∨ n = 2 ∨ n = 3 ∨ n = 4 ∨ n = 5 ∨ n = 6 ∨ n = 7 ∨ n = 8 ∨ n = 9 ∨ n = 10 ∨ n = 11 ∨ n = 12 ∨ n = 13 ∨ n = 14 ∨ n = 15 ∨ n = 16 ∨ n = 17 ∨ n = 18 ∨ n = 19 ∨ n = 20 ∨ n = 21 ∨ n = 22 := by omega
            rcases hcs with rfl | rfl | rfl | rfl | rfl | rfl | rfl | rfl | rfl | rfl | rfl | rfl | rfl | rfl | rfl | rfl | rfl | rfl | rfl | rfl | rfl | rfl | rfl
            · obtain rfl := Option.some.inj ho
              have h1 := slot_of (hkn 11 (by decide) : a.tmps.getD 11 undef = .pointer (some ⟨vb, 0, none⟩))
              clear hkn ho
              simp only [OpV, execOp]
              simp [go_sem, h1]
              exact ⟨rfl, hJ.more (by omega), World.grownBy.refl _ _⟩
            · obtain rfl := Option.some.inj ho
              have h1 := slot_of (hkn 92 (by decide) : a.tmps.getD 92 undef = .pointer (some ⟨vb, 0, none⟩))
              clear hkn ho
              simp only [OpV, execOp]
              simp [go_sem, h1]
              exact ⟨rfl, hJ.more (by omega), World.grownBy.refl _ _⟩
            · obtain rfl := Option.some.inj ho
              have h1 := slot_of (hkn 93 (by decide) : a.tmps.getD 93 undef = .pointer (some ⟨vb, 0, none⟩))
              have z0 : W2.cell? ⟨vb, 0, none⟩ = some (.int .i64 p.from_) := cell_h (hJ.fin _ _ HVB.out) 0 rfl
              clear hkn ho
              simp only [OpV, execOp]
              simp [go_sem, h1, z0]
              exact ⟨rfl, hJ.more (by omega), World.grownBy.refl _ _⟩
            · obtain rfl := Option.some.inj ho
              have h1 := slot_of (hkn 11 (by decide) : a.tmps.getD 11 undef = .pointer (some ⟨vb, 0, none⟩))
              clear hkn ho
              simp only [OpV, execOp]
              simp [go_sem, h1]
              exact ⟨rfl, hJ.more (by omega), World.grownBy.refl _ _⟩
            · obtain rfl := Option.some.inj ho
              have h1 := slot_of (hkn 95 (by decide) : a.tmps.getD 95 undef = .pointer (some ⟨vb, 0, none⟩))
              clear hkn ho
              simp only [OpV, execOp]
              simp [go_sem, h1]
              exact ⟨rfl, hJ.more (by omega), World.grownBy.refl _ _⟩
            · obtain rfl := Option.some.inj ho
              have h1 := slot_of (hkn 96 (by decide) : a.tmps.getD 96 undef = .pointer (some ⟨vb, 1, none⟩))
              have z1 : W2.cell? ⟨vb, 1, none⟩ = some (.int .i64 p.upto_) := cell_h (hJ.fin _ _ HVB.out) 1 rfl
              clear hkn ho
              simp only [OpV, execOp]
              simp [go_sem, h1, z1]
              exact ⟨rfl, hJ.more (by omega), World.grownBy.refl _ _⟩
            · obtain rfl := Option.some.inj ho
              have h1 := slot_of (hkn 97 (by decide) : a.tmps.getD 97 undef = .int .i64 p.upto_)
              clear hkn ho
              simp only [OpV, execOp]
              simp [go_sem, h1, e3]
              exact ⟨rfl, hJ.more (by omega), World.grownBy.refl _ _⟩
            · obtain rfl := Option.some.inj ho
              have h1 := slot_of (hkn 11 (by decide) : a.tmps.getD 11 undef = .pointer (some ⟨vb, 0, none⟩))
              clear hkn ho
              simp only [OpV, execOp]
              simp [go_sem, h1]
              exact ⟨rfl, hJ.more (by omega), World.grownBy.refl _ _⟩
            · obtain rfl := Option.some.inj ho
              have h1 := slot_of (hkn 99 (by decide) : a.tmps.getD 99 undef = .pointer (some ⟨vb, 0, none⟩))
              clear hkn ho
              simp only [OpV, execOp]
              simp [go_sem, h1]
              exact ⟨rfl, hJ.more (by omega), World.grownBy.refl _ _⟩
            · obtain rfl := Option.some.inj ho
              have h1 := slot_of (hkn 100 (by decide) : a.tmps.getD 100 undef = .pointer (some ⟨vb, 0, none⟩))
              have z0 : W2.cell? ⟨vb, 0, none⟩ = some (.int .i64 p.from_) := cell_h (hJ.fin _ _ HVB.out) 0 rfl
              clear hkn ho
              simp only [OpV, execOp]
              simp [go_sem, h1, z0]
              exact ⟨rfl, hJ.more (by omega), World.grownBy.refl _ _⟩
            · obtain rfl := Option.some.inj ho
              exact ⟨hkn 3 (by decide), hJ.more (by omega), World.grownBy.refl _ _⟩
            · obtain rfl := Option.some.inj ho
              have h1 := slot_of (hkn 11 (by decide) : a.tmps.getD 11 undef = .pointer (some ⟨vb, 0, none⟩))
              clear hkn ho
              simp only [OpV, execOp]
              simp [go_sem, h1]
              exact ⟨rfl, hJ.more (by omega), World.grownBy.refl _ _⟩
            · obtain rfl := Option.some.inj ho
              have h1 := slot_of (hkn 103 (by decide) : a.tmps.getD 103 undef = .pointer (some ⟨vb, 0, none⟩))
              clear hkn ho
              simp only [OpV, execOp]
              simp [go_sem, h1]
              exact ⟨rfl, hJ.more (by omega), World.grownBy.refl _ _⟩
            · obtain rfl := Option.some.inj ho
              have h1 := slot_of (hkn 104 (by decide) : a.tmps.getD 104 undef = .pointer (some ⟨vb, 1, none⟩))
              have z1 : W2.cell? ⟨vb, 1, none⟩ = some (.int .i64 p.upto_) := cell_h (hJ.fin _ _ HVB.out) 1 rfl
              clear hkn ho
              simp only [OpV, execOp]
              simp [go_sem, h1, z1]
              exact ⟨rfl, hJ.more (by omega), World.grownBy.refl _ _⟩
            · obtain rfl := Option.some.inj ho
              have h1 := slot_of (hkn 11 (by decide) : a.tmps.getD 11 undef = .pointer (some ⟨vb, 0, none⟩))
              clear hkn ho
              simp only [OpV, execOp]
              simp [go_sem, h1]
              exact ⟨rfl, hJ.more (by omega), World.grownBy.refl _ _⟩
            · obtain rfl := Option.some.inj ho
              have h1 := slot_of (hkn 106 (by decide) : a.tmps.getD 106 undef = .pointer (some ⟨vb, 0, none⟩))
              clear hkn ho
              simp only [OpV, execOp]
              simp [go_sem, h1]
              exact ⟨rfl, hJ.more (by omega), World.grownBy.refl _ _⟩
            · obtain rfl := Option.some.inj ho
              have h1 := slot_of (hkn 107 (by decide) : a.tmps.getD 107 undef = .pointer (some ⟨vb, 0, none⟩))
              have z0 : W2.cell? ⟨vb, 0, none⟩ = some (.int .i64 p.from_) := cell_h (hJ.fin _ _ HVB.out) 0 rfl
              clear hkn ho
              simp only [OpV, execOp]
              simp [go_sem, h1, z0]
              exact ⟨rfl, hJ.more (by omega), World.grownBy.refl _ _⟩
            · obtain rfl := Option.some.inj ho
              have h1 := slot_of (hkn 105 (by decide) : a.tmps.getD 105 undef = .int .i64 p.upto_)
              have h2 := slot_of (hkn 108 (by decide) : a.tmps.getD 108 undef = .int .i64 p.from_)
              clear hkn ho
              simp only [OpV, execOp]
              simp [go_sem, h1, h2, e2]
              exact ⟨rfl, hJ.more (by omega), World.grownBy.refl _ _⟩
            · obtain rfl := Option.some.inj ho
              have h1 := slot_of (hkn 102 (by decide) : a.tmps.getD 102 undef = .pointer (some ⟨w.heap.size, 0, none⟩))
              have h2 := slot_of (hkn 109 (by decide) : a.tmps.getD 109 undef = .int .i64 (p.upto_ - p.from_))
              clear hkn ho e2 e3
              simp only [OpV, execOp]
              simp [go_sem, h1, h2]
              refine (hJ.next' (p.upto_ - p.from_) (by omega) (by omega) (by omega)).mono ?_
              rintro e w' ⟨r, rfl, r0, r1, L, g, -⟩
              exact ⟨_, rfl, ⟨r, rfl, r0, r1⟩, L, g⟩
            · obtain rfl := Option.some.inj ho
              have h1 := slot_of (hkn 101 (by decide) : a.tmps.getD 101 undef = .int .i64 p.from_)
              obtain ⟨r, h2, r0, r1⟩ : ∃ r : Int, a.tmps.getD 110 undef = .int .i64 r ∧ 0 ≤ r ∧ r < p.upto_ - p.from_ := hkn 110 (by decide)
              replace h2 := slot_of h2
              have e5 : IntKind.i64.wrap (p.from_ + r) = p.from_ + r := IntWalk.i64_in _ (by omega)
              clear hkn ho
              simp only [OpV, execOp]
              simp [go_sem, h1, h2, e5]
              clear e2 e3 e5
              exact ⟨⟨p.from_ + r, rfl, by omega, by omega⟩, hJ.more (by omega), World.grownBy.refl _ _⟩
            · obtain rfl := Option.some.inj ho
              have h1 := slot_of (hkn 94 (by decide) : a.tmps.getD 94 undef = .int .i64 p.from_)
              have h2 := slot_of (hkn 98 (by decide) : a.tmps.getD 98 undef = .int .i64 (p.upto_ - 1))
              obtain ⟨c, h3, c1, c2⟩ : ∃ c : Int, a.tmps.getD 111 undef = .int .i64 c ∧ p.from_ ≤ c ∧ c < p.upto_ := hkn 111 (by decide)
              replace h3 := slot_of h3
              clear hkn ho
              simp only [OpV, execOp]
              simp [go_sem, h1, h2, h3]
              exact ⟨⟨c, W2.heap.size, rfl, ⟨c1, c2⟩, (by have := hJ.lt; omega), heap_alloc_new _ _⟩, (hJ.alloc _).more (by omega), grown_alloc _ _⟩
            · obtain rfl := Option.some.inj ho
              obtain ⟨c, mb, h1, -⟩ : ∃ (c : Int) (mb : Nat), a.tmps.getD 112 undef = .slice (some ⟨mb, 0, none⟩) 3 3 ∧ _ := hkn 112 (by decide)
              replace h1 := slot_of h1
              clear hkn ho
              simp only [OpV, execOp]
              simp [go_sem, h1]
              exact ⟨rfl, hJ.more (by omega), World.grownBy.refl _ _⟩
            · obtain rfl := Option.some.inj ho
              clear hkn ho
              simp only [OpV, execOp]
              simp [go_sem]
              exact ⟨rfl, hJ.more (by omega), World.grownBy.refl _ _⟩
          · intro yv W9 hW9 hφ
            obtain ⟨c, mb, e20, ⟨hc1, hc2⟩, hmne, hmb⟩ : ∃ (c : Int) (mb : Nat), yv 20 = .slice (some ⟨mb, 0, none⟩) 3 3 ∧ (p.from_ ≤ c ∧ c < p.upto_) ∧ mb ≠ w.heap.size ∧ W9.heap[mb]? = some (.cells #[.int .i64 p.from_, .int .i64 (p.upto_ - 1), .int .i64 c] 3 (0, 0)) := hφ 20 (by omega)
            have e21 : yv 21 = .int .i64 3 := hφ 21 (by omega)
            have e22 : yv 22 = .int .i64 0 := hφ 22 (by omega)
            clear hφ e2 e3
            simp only [List.drop_succ_cons, List.drop_zero, List.take_succ_cons, List.take_zero, putAll, Nat.reduceAdd, e20, e21, e22]
            clear e20 e21 e22
            generalize yv 0 = y0
            generalize yv 1 = y1
            generalize yv 2 = y2
            generalize yv 3 = y3
            generalize yv 4 = y4
            generalize yv 5 = y5
            generalize yv 6 = y6
            generalize yv 7 = y7
            generalize yv 8 = y8
            generalize yv 9 = y9
            generalize yv 10 = y10
            generalize yv 11 = y11
            generalize yv 12 = y12
            generalize yv 13 = y13
            generalize yv 14 = y14
            generalize yv 15 = y15
            generalize yv 16 = y16
            generalize yv 17 = y17
            generalize yv 18 = y18
            generalize yv 19 = y19
            have HL10 := Lib.hid hW9
            have HMB := Lib.hid hmb
            have HP10 := Lib.hid (HP6.out.le HLE7.out)
            have HML10 := Lib.hid (HML6.out.le HLE7.out)
            have HR10 := Lib.hid (HR6.out.le HLE7.out)
            clear hmb hW9 HL8 hmne
            refine wpList_nil ?_
            go_simp
            go_wp2_with fail
            go_loopw [13, 14, 15, 16, 17, 114] (fun _ _ _ _ _ t wr => ∃ j : Nat, j ≤ 3 ∧ t = .int .i64 j ∧ Hid (Lw w w.heap.size (600 + 30 * i + 23) H7 wr) ∧ Hid (wr.heap[mb]? = some (.cells #[.int .i64 p.from_, .int .i64 (p.upto_ - 1), .int .i64 c] 3 (0, 0)))) (fun _ _ _ _ _ t _ => 3 - (intOf t).toNat)
            case atStart => exact ⟨0, by omega, rfl, HL10, HMB⟩
            case round =>
              obtain ⟨j, hj, rfl, hLj, hMj⟩ := hrel
              clear HL10 HMB
              by_cases hj3 : j < 3
              · have c0 : wr.cell? ⟨mb, j, none⟩ = some (.int .i64 ([p.from_, p.upto_ - 1, c][j]'hj3)) := cell_h hMj.out j (by
                  match j, hj3 with
                  | 0, _ => rfl
                  | 1, _ => rfl
                  | 2, _ => rfl)
                have hm1 : p.from_ ≤ [p.from_, p.upto_ - 1, c][j]'hj3 := of_three hj3 (fun m => p.from_ ≤ m) (by omega) (by omega) (by omega)
                have hm2 : [p.from_, p.upto_ - 1, c][j]'hj3 < p.upto_ := of_three hj3 (fun m => m < p.upto_) (by omega) (by omega) (by omega)
                generalize [p.from_, p.upto_ - 1, c][j]'hj3 = m at *
                obtain ⟨f1, f2, f3⟩ := HALL.out m hm1 hm2
                have HMA := Lib.hid (may_any H7 HML10.out A cap ps A2 cap2 ss q.kind q.text q.purp q.region q.ch m wr hLj.out.fin HP10.out (by omega) HR10.out (by omega) HSZ.out (by have := HQ.out.text; omega) (by have := HQ.out.region; omega))
                have HNE := Lib.hid (fun W (hW : H7.In W) => next_any2 H7 HML10.out A cap ps A2 cap2 ss q.kind q.text q.purp q.region q.ch m W hW HP10.out (by omega) HR10.out (by omega) HSZ.out (by have := HQ.out.text; omega) (by have := HQ.out.region; omega))
                rw [f1, f2] at HMA
                rw [f2, f3] at HNE
                clear f1 f2 f3
                have q0 : wr.cell? ⟨W4.heap.size, 0, none⟩ = some (.int .i64 q.kind) := cell_h (hLj.out.fin _ _ HQ7.out) 0 rfl
                have q1 : wr.cell? ⟨W4.heap.size, 1, none⟩ = some (.string q.text) := cell_h (hLj.out.fin _ _ HQ7.out) 1 rfl
                have q2 : wr.cell? ⟨W4.heap.size, 2, none⟩ = some (.string q.purp) := cell_h (hLj.out.fin _ _ HQ7.out) 2 rfl
                have q3 : wr.cell? ⟨W4.heap.size, 3, none⟩ = some (.string q.region) := cell_h (hLj.out.fin _ _ HQ7.out) 3 rfl
                have q4 : wr.cell? ⟨W4.heap.size, 4, none⟩ = some (.int .i64 q.ch) := cell_h (hLj.out.fin _ _ HQ7.out) 4 rfl
                have q5 : wr.cell? ⟨W4.heap.size, 5, none⟩ = some (.int .i64 q.at_) := cell_h (hLj.out.fin _ _ HQ7.out) 5 rfl
                go_wp2_with fail
                refine HMA.out.mono ?_
                rintro e W11 ⟨rfl, hb11⟩
                rw [show ansV p.a = .agg #[.bool p.a.may, .int .i64 p.a.why, .int .i64 p.a.no] from rfl]
                have HL12 := Lib.hid ((hLj.out.call hb11).alloc (.cells #[.bool p.a.may, .int .i64 p.a.why, .int .i64 p.a.no] 37))
                have HM12 : Hid ((W11.alloc (.cells #[.bool p.a.may, .int .i64 p.a.why, .int .i64 p.a.no] 37)).heap[mb]? = some (.cells #[.int .i64 p.from_, .int .i64 (p.upto_ - 1), .int .i64 c] 3 (0, 0))) := ((hb11.alloc hb11.size (.cells #[.bool p.a.may, .int .i64 p.a.why, .int .i64 p.a.no] 37)).block _ (lt_of_heap hMj.out)).trans hMj.out
                have HAB : Hid ((W11.alloc (.cells #[.bool p.a.may, .int .i64 p.a.why, .int .i64 p.a.no] 37)).heap[W11.heap.size]? = some (.cells #[.bool p.a.may, .int .i64 p.a.why, .int .i64 p.a.no] 37)) := heap_alloc_new _ _
                clear q0 q1 q2 q3 q4 q5 HMA hb11 hLj hMj c0
                go_upto_region 18 with (fail)
                generalize W11.alloc (.cells #[.bool p.a.may, .int .i64 p.a.why, .int .i64 p.a.no] 37) = W12 at *
                generalize W11.heap.size = ab at *
                have q0 : W12.cell? ⟨W4.heap.size, 0, none⟩ = some (.int .i64 q.kind) := cell_h (HL12.out.fin _ _ HQ7.out) 0 rfl
                have q1 : W12.cell? ⟨W4.heap.size, 1, none⟩ = some (.string q.text) := cell_h (HL12.out.fin _ _ HQ7.out) 1 rfl
                have q2 : W12.cell? ⟨W4.heap.size, 2, none⟩ = some (.string q.purp) := cell_h (HL12.out.fin _ _ HQ7.out) 2 rfl
                have q3 : W12.cell? ⟨W4.heap.size, 3, none⟩ = some (.string q.region) := cell_h (HL12.out.fin _ _ HQ7.out) 3 rfl
                have q4 : W12.cell? ⟨W4.heap.size, 4, none⟩ = some (.int .i64 q.ch) := cell_h (HL12.out.fin _ _ HQ7.out) 4 rfl
                have q5 : W12.cell? ⟨W4.heap.size, 5, none⟩ = some (.int .i64 q.at_) := cell_h (HL12.out.fin _ _ HQ7.out) 5 rfl
                go_wp2_with fail
                refine (HNE.out W12 HL12.out.fin).mono ?_
                rintro e W13 ⟨rfl, hb13⟩
                have HL13 := Lib.hid (HL12.out.call hb13)
                have HM13 := Lib.hid ((hb13.block _ (lt_of_heap HM12.out)).trans HM12.out)
                have hab := (hb13.block _ (lt_of_heap HAB.out)).trans HAB.out
                have y0 : W13.cell? ⟨ab, 0, none⟩ = some (.bool p.a.may) := cell_h hab 0 rfl
                have y1 : W13.cell? ⟨ab, 1, none⟩ = some (.int .i64 p.a.why) := cell_h hab 1 rfl
                have y2 : W13.cell? ⟨ab, 2, none⟩ = some (.int .i64 p.a.no) := cell_h hab 2 rfl
                have v0 : W13.cell? ⟨vb, 0, none⟩ = some (.int .i64 p.from_) := cell_h (HL13.out.fin _ _ HVB.out) 0 rfl
                have v1 : W13.cell? ⟨vb, 1, none⟩ = some (.int .i64 p.upto_) := cell_h (HL13.out.fin _ _ HVB.out) 1 rfl
                have v2 : W13.cell? ⟨vb, 2, none⟩ = some (.bool p.a.may) := cell_h (HL13.out.fin _ _ HVB.out) 2 rfl
                have v3 : W13.cell? ⟨vb, 3, none⟩ = some (.int .i64 p.a.why) := cell_h (HL13.out.fin _ _ HVB.out) 3 rfl
                have v4 : W13.cell? ⟨vb, 4, none⟩ = some (.int .i64 p.a.no) := cell_h (HL13.out.fin _ _ HVB.out) 4 rfl
                clear q0 q1 q2 q3 q4 q5 hb13 HL12 HM12 HAB hab HNE
                go_wp2_with fail
                go_roundw
                case rel => exact ⟨j + 1, by omega, by go_num, HL13, HM13⟩
                case measure => simp [intOf]; omega
              · have hje : j = 3 := by omega
                subst hje
                have HLX : Hid (Lw w w.heap.size (600 + 30 * (i + 1)) Hx wr) := (hLj.out.less HLE7.out).more (by omega)
                clear hLj hMj
                go_wp2_with fail
                go_roundw
                case rel => exact ⟨i + 1, by omega, by go_num, by rw [HNX.out], HLX⟩
                case measure => simp [intOf]; omega
        · obtain ⟨pa, hpa, hpc⟩ := HC2.out (by omega)
          have hne := HDF.out (by omega)
          rw [hpa] at hne
          have hnq : ¬ (p.a.may = pa.may ∧ p.a.why = pa.why ∧ p.a.no = pa.no) := fun h => hne (eqA_iff.1 (by unfold eqA; rw [h.1, h.2.1, h.2.2]; simp))
          have M2 : ∀ W, Below W7.heap.size W7 W → W.cell? ⟨b, off + (i - 1) * 5 + 2, none⟩ = some (.bool pa.may) := fun W hW => (hpc W (HBW.out.trans (hW.mono hvl))).1
          have M3 : ∀ W, Below W7.heap.size W7 W → W.cell? ⟨b, off + (i - 1) * 5 + 3, none⟩ = some (.int .i64 pa.why) := fun W hW => (hpc W (HBW.out.trans (hW.mono hvl))).2.1
          have M4 : ∀ W, Below W7.heap.size W7 W → W.cell? ⟨b, off + (i - 1) * 5 + 4, none⟩ = some (.int .i64 pa.no) := fun W hW => (hpc W (HBW.out.trans (hW.mono hvl))).2.2
          have g0 : decide ((0 : Int) < (i : Int)) = true := by simp; omega
          have g1 : 1 ≤ (i : Int) := by omega
          have e1 : ((i : Int) - 1).toNat = i - 1 := by omega
          have HI0 : Hid (0 < i) := by show 0 < i; omega
          have e5 : (i : Int) - 1 < (x.length : Int) := by omega
          have e4 : IntKind.i64.wrap ((i : Int) - 1) = (i : Int) - 1 := IntWalk.i64_in _ (by omega)
          clear hi0 hpa hpc hne
          (refine wp_region_det 28 174 (fun W => Below (W7).heap.size (W7) W) (by kernel_rfl) (by kernel_rfl) (by rfl) (Below.refl _ _).drew ?_; simp only [List.take_succ_cons, List.take_zero, List.drop_succ_cons, List.drop_zero])
          iterate 4 (refine detSeq_op rfl ?_ (fun W hW => ?_) ?_; rotate_left; (focus simp only [OpV]; go_simp; first | exact rfl | exact ⟨rfl, hW⟩))
          (refine detSeq_op rfl (.bool false) (fun W hW => ?_) ?_; focus (simp only [OpV]; go_simp; try (first | exact rfl | exact hW | exact ⟨rfl, hW⟩ | exact HFR.out | exact ⟨HFR.out, hW⟩ | omega | exact ⟨by omega, hW⟩)))
          iterate 1 (refine detSeq_op rfl ?_ (fun W hW => ?_) ?_; rotate_left; (focus simp only [OpV]; go_simp; first | exact rfl | exact ⟨rfl, hW⟩))
          iterate 6 (refine detSeq_yes (by kernel_rfl) ?_ (fun W hW => ?_) ?_; rotate_left; (focus simp only [OpV]; go_simp; first | exact rfl | exact ⟨rfl, hW⟩))
          (refine detSeq_yes (by kernel_rfl) (.bool false) (fun W hW => ?_) ?_; focus (simp only [OpV]; go_simp; try (first | exact rfl | exact hW | exact ⟨rfl, hW⟩ | omega | exact ⟨by omega, hW⟩)))
          iterate 2 (refine detSeq_op rfl ?_ (fun W hW => ?_) ?_; rotate_left; (focus simp only [OpV]; go_simp; first | exact rfl | exact ⟨rfl, hW⟩))
          iterate 1 (refine detSeq_yes (by kernel_rfl) ?_ (fun W hW => ?_) ?_; rotate_left; (focus simp only [OpV]; go_simp; first | exact rfl | exact ⟨rfl, hW⟩))
          (refine detSeq_yes (by kernel_rfl) (.bool true) (fun W hW => ?_) ?_; focus (simp only [OpV]; go_simp; try (first | exact rfl | exact hW | exact ⟨rfl, hW⟩ | omega | exact ⟨by omega, hW⟩)))
          iterate 1 (refine detSeq_yes (by kernel_rfl) ?_ (fun W hW => ?_) ?_; rotate_left; (focus simp only [OpV]; go_simp; first | exact rfl | exact ⟨rfl, hW⟩))
          iterate 8 (refine detSeq_yes (by kernel_rfl) ?_ (fun W hW => ?_) ?_; rotate_left; (focus simp only [OpV]; go_simp; first | exact rfl | exact ⟨rfl, hW⟩))
          (refine detSeq_yes (by kernel_rfl) (.bool false) (fun W hW => ?_) ?_; focus (simp only [OpV]; go_simp; by_cases c1 : p.a.may = pa.may <;> by_cases c2 : p.a.why = pa.why <;> by_cases c3 : p.a.no = pa.no <;> simp [c1, c2, c3] <;> first | exact hW | exact (hnq ⟨c1, c2, c3⟩).elim))
          iterate 1 (refine detSeq_yes (by kernel_rfl) ?_ (fun W hW => ?_) ?_; rotate_left; (focus simp only [OpV]; go_simp; first | exact rfl | exact ⟨rfl, hW⟩))
          refine detSeq_nil (fun W8 hW8 => ?_)
          clear M2 M3 M4 hnq e1 e4 e5
          have HL8 := Lib.hid (HL7.out.call hW8)
          clear K0 K1 K2 K3 K4 hW8 HL7 v0 v1 v2 v3 v4 HC2 HDF nx
          have v0 : W8.cell? ⟨vb, 0, none⟩ = some (.int .i64 p.from_) := cell_h (HL8.out.fin _ _ HVB.out) 0 rfl
          have v1 : W8.cell? ⟨vb, 1, none⟩ = some (.int .i64 p.upto_) := cell_h (HL8.out.fin _ _ HVB.out) 1 rfl
          have v2 : W8.cell? ⟨vb, 2, none⟩ = some (.bool p.a.may) := cell_h (HL8.out.fin _ _ HVB.out) 2 rfl
          have v3 : W8.cell? ⟨vb, 3, none⟩ = some (.int .i64 p.a.why) := cell_h (HL8.out.fin _ _ HVB.out) 3 rfl
          have v4 : W8.cell? ⟨vb, 4, none⟩ = some (.int .i64 p.a.no) := cell_h (HL8.out.fin _ _ HVB.out) 4 rfl
          go_upto_region 14 with (fail)
          clear v0 v1 v2 v3 v4
          have e2 : IntKind.i64.wrap (p.upto_ - p.from_) = p.upto_ - p.from_ := IntWalk.i64_in _ (by omega)
          have e3 : IntKind.i64.wrap (p.upto_ - 1) = p.upto_ - 1 := IntWalk.i64_in _ (by omega)
          refine C0.wp_region_conc 23 174 (φ14 w.heap.size vb p) (fun k W => Lw w w.heap.size (600 + 30 * i + k) H7 W) (fun a b => a.grownBy b (some w.heap.size)) (by kernel_rfl) (by kernel_rfl) (by rfl) (HL8.out.call (Below.refl _ _).drew) φ14_mono ?_ ?_
          · intro n o hn ho a W2 kk hkk hJ hkn
            have hcs : n = 0 ∨ n = 1 ∨ n = 2 ∨ n = 3 ∨ n = 4 ∨ n = 5 ∨ n = 6 ∨ n = 7 ∨ n = 8 ∨ n = 9 ∨ n = 10 ∨ n = 11 ∨ n = 12 ∨ n = 13 ∨ n = 14 ∨ n = 15 ∨ n = 16 ∨ n = 17 ∨ n = 18 ∨ n = 19 ∨ n = 20 ∨ n = 21 ∨ n = 22 := by omega
            rcases hcs with rfl | rfl | rfl | rfl | rfl | rfl | rfl | rfl | rfl | rfl | rfl | rfl | rfl | rfl | rfl | rfl | rfl | rfl | rfl | rfl | rfl | rfl | rfl
            · obtain rfl := Option.some.inj ho
              have h1 := slot_of (hkn 11 (by decide) : a.tmps.getD 11 undef = .pointer (some ⟨vb, 0, none⟩))
              clear hkn ho
              simp only [OpV, execOp]
              simp [go_sem, h1]
              exact ⟨rfl, hJ.more (by omega), World.grownBy.refl _ _⟩
            · obtain rfl := Option.some.inj ho
              have h1 := slot_of (hkn 92 (by decide) : a.tmps.getD 92 undef = .pointer (some ⟨vb, 0, none⟩))
              clear hkn ho
              simp only [OpV, execOp]
              simp [go_sem, h1]
              exact ⟨rfl, hJ.more (by omega), World.grownBy.refl _ _⟩
            · obtain rfl := Option.some.inj ho
              have h1 := slot_of (hkn 93 (by decide) : a.tmps.getD 93 undef = .pointer (some ⟨vb, 0, none⟩))
              have z0 : W2.cell? ⟨vb, 0, none⟩ = some (.int .i64 p.from_) := cell_h (hJ.fin _ _ HVB.out) 0 rfl
              clear hkn ho
              simp only [OpV, execOp]
              simp [go_sem, h1, z0]
              exact ⟨rfl, hJ.more (by omega), World.grownBy.refl _ _⟩
            · obtain rfl := Option.some.inj ho
              have h1 := slot_of (hkn 11 (by decide) : a.tmps.getD 11 undef = .pointer (some ⟨vb, 0, none⟩))
              clear hkn ho
              simp only [OpV, execOp]
              simp [go_sem, h1]
              exact ⟨rfl, hJ.more (by omega), World.grownBy.refl _ _⟩
            · obtain rfl := Option.some.inj ho
              have h1 := slot_of (hkn 95 (by decide) : a.tmps.getD 95 undef = .pointer (some ⟨vb, 0, none⟩))
              clear hkn ho
              simp only [OpV, execOp]
              simp [go_sem, h1]
              exact ⟨rfl, hJ.more (by omega), World.grownBy.refl _ _⟩
            · obtain rfl := Option.some.inj ho
              have h1 := slot_of (hkn 96 (by decide) : a.tmps.getD 96 undef = .pointer (some ⟨vb, 1, none⟩))
              have z1 : W2.cell? ⟨vb, 1, none⟩ = some (.int .i64 p.upto_) := cell_h (hJ.fin _ _ HVB.out) 1 rfl
              clear hkn ho
              simp only [OpV, execOp]
              simp [go_sem, h1, z1]
              exact ⟨rfl, hJ.more (by omega), World.grownBy.refl _ _⟩
            · obtain rfl := Option.some.inj ho
              have h1 := slot_of (hkn 97 (by decide) : a.tmps.getD 97 undef = .int .i64 p.upto_)
              clear hkn ho
              simp only [OpV, execOp]
              simp [go_sem, h1, e3]
              exact ⟨rfl, hJ.more (by omega), World.grownBy.refl _ _⟩
            · obtain rfl := Option.some.inj ho
              have h1 := slot_of (hkn 11 (by decide) : a.tmps.getD 11 undef = .pointer (some ⟨vb, 0, none⟩))
              clear hkn ho
              simp only [OpV, execOp]
              simp [go_sem, h1]
              exact ⟨rfl, hJ.more (by omega), World.grownBy.refl _ _⟩
            · obtain rfl := Option.some.inj ho
              have h1 := slot_of (hkn 99 (by decide) : a.tmps.getD 99 undef = .pointer (some ⟨vb, 0, none⟩))
              clear hkn ho
              simp only [OpV, execOp]
              simp [go_sem, h1]
              exact ⟨rfl, hJ.more (by omega), World.grownBy.refl _ _⟩
            · obtain rfl := Option.some.inj ho
              have h1 := slot_of (hkn 100 (by decide) : a.tmps.getD 100 undef = .pointer (some ⟨vb, 0, none⟩))
              have z0 : W2.cell? ⟨vb, 0, none⟩ = some (.int .i64 p.from_) := cell_h (hJ.fin _ _ HVB.out) 0 rfl
              clear hkn ho
              simp only [OpV, execOp]
              simp [go_sem, h1, z0]
              exact ⟨rfl, hJ.more (by omega), World.grownBy.refl _ _⟩
            · obtain rfl := Option.some.inj ho
              exact ⟨hkn 3 (by decide), hJ.more (by omega), World.grownBy.refl _ _⟩
            · obtain rfl := Option.some.inj ho
              have h1 := slot_of (hkn 11 (by decide) : a.tmps.getD 11 undef = .pointer (some ⟨vb, 0, none⟩))
              clear hkn ho
              simp only [OpV, execOp]
              simp [go_sem, h1]
              exact ⟨rfl, hJ.more (by omega), World.grownBy.refl _ _⟩
            · obtain rfl := Option.some.inj ho
              have h1 := slot_of (hkn 103 (by decide) : a.tmps.getD 103 undef = .pointer (some ⟨vb, 0, none⟩))
              clear hkn ho
              simp only [OpV, execOp]
              simp [go_sem, h1]
              exact ⟨rfl, hJ.more (by omega), World.grownBy.refl _ _⟩
            · obtain rfl := Option.some.inj ho
              have h1 := slot_of (hkn 104 (by decide) : a.tmps.getD 104 undef = .pointer (some ⟨vb, 1, none⟩))
              have z1 : W2.cell? ⟨vb, 1, none⟩ = some (.int .i64 p.upto_) := cell_h (hJ.fin _ _ HVB.out) 1 rfl
              clear hkn ho
              simp only [OpV, execOp]
              simp [go_sem, h1, z1]
              exact ⟨rfl, hJ.more (by omega), World.grownBy.refl _ _⟩
            · obtain rfl := Option.some.inj ho
              have h1 := slot_of (hkn 11 (by decide) : a.tmps.getD 11 undef = .pointer (some ⟨vb, 0, none⟩))
              clear hkn ho
              simp only [OpV, execOp]
              simp [go_sem, h1]
              exact ⟨rfl, hJ.more (by omega), World.grownBy.refl _ _⟩
            · obtain rfl := Option.some.inj ho
              have h1 := slot_of (hkn 106 (by decide) : a.tmps.getD 106 undef = .pointer (some ⟨vb, 0, none⟩))
              clear hkn ho
              simp only [OpV, execOp]
              simp [go_sem, h1]
              exact ⟨rfl, hJ.more (by omega), World.grownBy.refl _ _⟩
            · obtain rfl := Option.some.inj ho
              have h1 := slot_of (hkn 107 (by decide) : a.tmps.getD 107 undef = .pointer (some ⟨vb, 0, none⟩))
              have z0 : W2.cell? ⟨vb, 0, none⟩ = some (.int .i64 p.from_) := cell_h (hJ.fin _ _ HVB.out) 0 rfl
              clear hkn ho
              simp only [OpV, execOp]
              simp [go_sem, h1, z0]
              exact ⟨rfl, hJ.more (by omega), World.grownBy.refl _ _⟩
            · obtain rfl := Option.some.inj ho
              have h1 := slot_of (hkn 105 (by decide) : a.tmps.getD 105 undef = .int .i64 p.upto_)
              have h2 := slot_of (hkn 108 (by decide) : a.tmps.getD 108 undef = .int .i64 p.from_)
              clear hkn ho
              simp only [OpV, execOp]
              simp [go_sem, h1, h2, e2]
              exact ⟨rfl, hJ.more (by omega), World.grownBy.refl _ _⟩
            · obtain rfl := Option.some.inj ho
              have h1 := slot_of (hkn 102 (by decide) : a.tmps.getD 102 undef = .pointer (some ⟨w.heap.size, 0, none⟩))
              have h2 := slot_of (hkn 109 (by decide) : a.tmps.getD 109 undef = .int .i64 (p.upto_ - p.from_))
              clear hkn ho e2 e3
              simp only [OpV, execOp]
              simp [go_sem, h1, h2]
              refine (hJ.next' (p.upto_ - p.from_) (by omega) (by omega) (by omega)).mono ?_
              rintro e w' ⟨r, rfl, r0, r1, L, g, -⟩
              exact ⟨_, rfl, ⟨r, rfl, r0, r1⟩, L, g⟩
            · obtain rfl := Option.some.inj ho
              have h1 := slot_of (hkn 101 (by decide) : a.tmps.getD 101 undef = .int .i64 p.from_)
              obtain ⟨r, h2, r0, r1⟩ : ∃ r : Int, a.tmps.getD 110 undef = .int .i64 r ∧ 0 ≤ r ∧ r < p.upto_ - p.from_ := hkn 110 (by decide)
              replace h2 := slot_of h2
              have e5 : IntKind.i64.wrap (p.from_ + r) = p.from_ + r := IntWalk.i64_in _ (by omega)
              clear hkn ho
              simp only [OpV, execOp]
              simp [go_sem, h1, h2, e5]
              clear e2 e3 e5
              exact ⟨⟨p.from_ + r, rfl, by omega, by omega⟩, hJ.more (by omega), World.grownBy.refl _ _⟩
            · obtain rfl := Option.some.inj ho
              have h1 := slot_of (hkn 94 (by decide) : a.tmps.getD 94 undef = .int .i64 p.from_)
              have h2 := slot_of (hkn 98 (by decide) : a.tmps.getD 98 undef = .int .i64 (p.upto_ - 1))
              obtain ⟨c, h3, c1, c2⟩ : ∃ c : Int, a.tmps.getD 111 undef = .int .i64 c ∧ p.from_ ≤ c ∧ c < p.upto_ := hkn 111 (by decide)
              replace h3 := slot_of h3
              clear hkn ho
              simp only [OpV, execOp]
              simp [go_sem, h1, h2, h3]
              exact ⟨⟨c, W2.heap.size, rfl, ⟨c1, c2⟩, (by have := hJ.lt; omega), heap_alloc_new _ _⟩, (hJ.alloc _).more (by omega), grown_alloc _ _⟩
            · obtain rfl := Option.some.inj ho
              obtain ⟨c, mb, h1, -⟩ : ∃ (c : Int) (mb : Nat), a.tmps.getD 112 undef = .slice (some ⟨mb, 0, none⟩) 3 3 ∧ _ := hkn 112 (by decide)
              replace h1 := slot_of h1
              clear hkn ho
              simp only [OpV, execOp]
              simp [go_sem, h1]
              exact ⟨rfl, hJ.more (by omega), World.grownBy.refl _ _⟩
            · obtain rfl := Option.some.inj ho
              clear hkn ho
              simp only [OpV, execOp]
              simp [go_sem]
              exact ⟨rfl, hJ.more (by omega), World.grownBy.refl _ _⟩
          · intro yv W9 hW9 hφ
            obtain ⟨c, mb, e20, ⟨hc1, hc2⟩, hmne, hmb⟩ : ∃ (c : Int) (mb : Nat), yv 20 = .slice (some ⟨mb, 0, none⟩) 3 3 ∧ (p.from_ ≤ c ∧ c < p.upto_) ∧ mb ≠ w.heap.size ∧ W9.heap[mb]? = some (.cells #[.int .i64 p.from_, .int .i64 (p.upto_ - 1), .int .i64 c] 3 (0, 0)) := hφ 20 (by omega)
            have e21 : yv 21 = .int .i64 3 := hφ 21 (by omega)
            have e22 : yv 22 = .int .i64 0 := hφ 22 (by omega)
            clear hφ e2 e3
            simp only [List.drop_succ_cons, List.drop_zero, List.take_succ_cons, List.take_zero, putAll, Nat.reduceAdd, e20, e21, e22]
            clear e20 e21 e22
            generalize yv 0 = y0
            generalize yv 1 = y1
            generalize yv 2 = y2
            generalize yv 3 = y3
            generalize yv 4 = y4
            generalize yv 5 = y5
            generalize yv 6 = y6
            generalize yv 7 = y7
            generalize yv 8 = y8
            generalize yv 9 = y9
            generalize yv 10 = y10
            generalize yv 11 = y11
            generalize yv 12 = y12
            generalize yv 13 = y13
            generalize yv 14 = y14
            generalize yv 15 = y15
            generalize yv 16 = y16
            generalize yv 17 = y17
            generalize yv 18 = y18
            generalize yv 19 = y19
            have HL10 := Lib.hid hW9
            have HMB := Lib.hid hmb
            have HP10 := Lib.hid (HP6.out.le HLE7.out)
            have HML10 := Lib.hid (HML6.out.le HLE7.out)
            have HR10 := Lib.hid (HR6.out.le HLE7.out)
            clear hmb hW9 HL8 hmne
            refine wpList_nil ?_
            go_simp
            go_wp2_with fail
            go_loopw [13, 14, 15, 16, 17, 114] (fun _ _ _ _ _ t wr => ∃ j : Nat, j ≤ 3 ∧ t = .int .i64 j ∧ Hid (Lw w w.heap.size (600 + 30 * i + 23) H7 wr) ∧ Hid (wr.heap[mb]? = some (.cells #[.int .i64 p.from_, .int .i64 (p.upto_ - 1), .int .i64 c] 3 (0, 0)))) (fun _ _ _ _ _ t _ => 3 - (intOf t).toNat)
            case atStart => exact ⟨0, by omega, rfl, HL10, HMB⟩
            case round =>
              obtain ⟨j, hj, rfl, hLj, hMj⟩ := hrel
              clear HL10 HMB
              by_cases hj3 : j < 3
              · have c0 : wr.cell? ⟨mb, j, none⟩ = some (.int .i64 ([p.from_, p.upto_ - 1, c][j]'hj3)) := cell_h hMj.out j (by
                  match j, hj3 with
                  | 0, _ => rfl
                  | 1, _ => rfl
                  | 2, _ => rfl)
                have hm1 : p.from_ ≤ [p.from_, p.upto_ - 1, c][j]'hj3 := of_three hj3 (fun m => p.from_ ≤ m) (by omega) (by omega) (by omega)
                have hm2 : [p.from_, p.upto_ - 1, c][j]'hj3 < p.upto_ := of_three hj3 (fun m => m < p.upto_) (by omega) (by omega) (by omega)
                generalize [p.from_, p.upto_ - 1, c][j]'hj3 = m at *
                obtain ⟨f1, f2, f3⟩ := HALL.out m hm1 hm2
                have HMA := Lib.hid (may_any H7 HML10.out A cap ps A2 cap2 ss q.kind q.text q.purp q.region q.ch m wr hLj.out.fin HP10.out (by omega) HR10.out (by omega) HSZ.out (by have := HQ.out.text; omega) (by have := HQ.out.region; omega))
                have HNE := Lib.hid (fun W (hW : H7.In W) => next_any2 H7 HML10.out A cap ps A2 cap2 ss q.kind q.text q.purp q.region q.ch m W hW HP10.out (by omega) HR10.out (by omega) HSZ.out (by have := HQ.out.text; omega) (by have := HQ.out.region; omega))
                rw [f1, f2] at HMA
                rw [f2, f3] at HNE
                clear f1 f2 f3
                have q0 : wr.cell? ⟨W4.heap.size, 0, none⟩ = some (.int .i64 q.kind) := cell_h (hLj.out.fin _ _ HQ7.out) 0 rfl
                have q1 : wr.cell? ⟨W4.heap.size, 1, none⟩ = some (.string q.text) := cell_h (hLj.out.fin _ _ HQ7.out) 1 rfl
                have q2 : wr.cell? ⟨W4.heap.size, 2, none⟩ = some (.string q.purp) := cell_h (hLj.out.fin _ _ HQ7.out) 2 rfl
                have q3 : wr.cell? ⟨W4.heap.size, 3, none⟩ = some (.string q.region) := cell_h (hLj.out.fin _ _ HQ7.out) 3 rfl
                have q4 : wr.cell? ⟨W4.heap.size, 4, none⟩ = some (.int .i64 q.ch) := cell_h (hLj.out.fin _ _ HQ7.out) 4 rfl
                have q5 : wr.cell? ⟨W4.heap.size, 5, none⟩ = some (.int .i64 q.at_) := cell_h (hLj.out.fin _ _ HQ7.out) 5 rfl
                go_wp2_with fail
                refine HMA.out.mono ?_
                rintro e W11 ⟨rfl, hb11⟩
                rw [show ansV p.a = .agg #[.bool p.a.may, .int .i64 p.a.why, .int .i64 p.a.no] from rfl]
                have HL12 := Lib.hid ((hLj.out.call hb11).alloc (.cells #[.bool p.a.may, .int .i64 p.a.why, .int .i64 p.a.no] 37))
                have HM12 : Hid ((W11.alloc (.cells #[.bool p.a.may, .int .i64 p.a.why, .int .i64 p.a.no] 37)).heap[mb]? = some (.cells #[.int .i64 p.from_, .int .i64 (p.upto_ - 1), .int .i64 c] 3 (0, 0))) := ((hb11.alloc hb11.size (.cells #[.bool p.a.may, .int .i64 p.a.why, .int .i64 p.a.no] 37)).block _ (lt_of_heap hMj.out)).trans hMj.out
                have HAB : Hid ((W11.alloc (.cells #[.bool p.a.may, .int .i64 p.a.why, .int .i64 p.a.no] 37)).heap[W11.heap.size]? = some (.cells #[.bool p.a.may, .int .i64 p.a.why, .int .i64 p.a.no] 37)) := heap_alloc_new _ _
                clear q0 q1 q2 q3 q4 q5 HMA hb11 hLj hMj c0
                go_upto_region 18 with (fail)
                generalize W11.alloc (.cells #[.bool p.a.may, .int .i64 p.a.why, .int .i64 p.a.no] 37) = W12 at *
                generalize W11.heap.size = ab at *
                have q0 : W12.cell? ⟨W4.heap.size, 0, none⟩ = some (.int .i64 q.kind) := cell_h (HL12.out.fin _ _ HQ7.out) 0 rfl
                have q1 : W12.cell? ⟨W4.heap.size, 1, none⟩ = some (.string q.text) := cell_h (HL12.out.fin _ _ HQ7.out) 1 rfl
                have q2 : W12.cell? ⟨W4.heap.size, 2, none⟩ = some (.string q.purp) := cell_h (HL12.out.fin _ _ HQ7.out) 2 rfl
                have q3 : W12.cell? ⟨W4.heap.size, 3, none⟩ = some (.string q.region) := cell_h (HL12.out.fin _ _ HQ7.out) 3 rfl
                have q4 : W12.cell? ⟨W4.heap.size, 4, none⟩ = some (.int .i64 q.ch) := cell_h (HL12.out.fin _ _ HQ7.out) 4 rfl
                have q5 : W12.cell? ⟨W4.heap.size, 5, none⟩ = some (.int .i64 q.at_) := cell_h (HL12.out.fin _ _ HQ7.out) 5 rfl
                go_wp2_with fail
                refine (HNE.out W12 HL12.out.fin).mono ?_
                rintro e W13 ⟨rfl, hb13⟩
                have HL13 := Lib.hid (HL12.out.call hb13)
                have HM13 := Lib.hid ((hb13.block _ (lt_of_heap HM12.out)).trans HM12.out)
                have hab := (hb13.block _ (lt_of_heap HAB.out)).trans HAB.out
                have y0 : W13.cell? ⟨ab, 0, none⟩ = some (.bool p.a.may) := cell_h hab 0 rfl
                have y1 : W13.cell? ⟨ab, 1, none⟩ = some (.int .i64 p.a.why) := cell_h hab 1 rfl
                have y2 : W13.cell? ⟨ab, 2, none⟩ = some (.int .i64 p.a.no) := cell_h hab 2 rfl
                have v0 : W13.cell? ⟨vb, 0, none⟩ = some (.int .i64 p.from_) := cell_h (HL13.out.fin _ _ HVB.out) 0 rfl
                have v1 : W13.cell? ⟨vb, 1, none⟩ = some (.int .i64 p.upto_) := cell_h (HL13.out.fin _ _ HVB.out) 1 rfl
                have v2 : W13.cell? ⟨vb, 2, none⟩ = some (.bool p.a.may) := cell_h (HL13.out.fin _ _ HVB.out) 2 rfl
                have v3 : W13.cell? ⟨vb, 3, none⟩ = some (.int .i64 p.a.why) := cell_h (HL13.out.fin _ _ HVB.out) 3 rfl
                have v4 : W13.cell? ⟨vb, 4, none⟩ = some (.int .i64 p.a.no) := cell_h (HL13.out.fin _ _ HVB.out) 4 rfl
                clear q0 q1 q2 q3 q4 q5 hb13 HL12 HM12 HAB hab HNE
                go_wp2_with fail
                go_roundw
                case rel => exact ⟨j + 1, by omega, by go_num, HL13, HM13⟩
                case measure => simp [intOf]; omega
              · have hje : j = 3 := by omega
                subst hje
                have HLX : Hid (Lw w w.heap.size (600 + 30 * (i + 1)) Hx wr) := (hLj.out.less HLE7.out).more (by omega)
                clear hLj hMj
                go_wp2_with fail
                go_roundw
                case rel => exact ⟨i + 1, by omega, by go_num, by rw [HNX.out], HLX⟩
                case measure => simp [intOf]; omega
      · have hie : i = x.length := by omega
        subst hie
        have hend : atF x x.length = 4321440 := by
          have h := atF_next x (i := x.length - 1) (by omega)
          rw [show x.length - 1 + 1 = x.length from by omega] at h
          rw [h]
          exact (HXA.out _ (by omega)).last (by omega)
        rw [hend]
        clear hend
        go_wp2_with fail
        refine (consents_any Hx HML6.out wr hL.out.fin).mono ?_
        rintro e W14 ⟨rfl, hb12⟩
        have HF := Lib.hid (hL.out.call hb12).bel
        clear hb12
        go_wp2_with fail
        go_ret
        exact ⟨rfl, HF.out⟩
end Go.Proofs.YtbhccicibmcafaaGreatDoor
