/- Texts of this claim, put together: ChkI, ChkT, Normal. -/
import Derived.Test.YtbidhpgjmcedaaaGreatDoorGAO
import Derived.Test.YtbidhpgjmcedaaaGreatDoorGAF
import Derived.Laws.ResultCell
import Derived.Laws.Rows
/- What is wrong with ids that stand in order. -/
namespace Go.Proofs.YtbidhpgjmcedaaaGreatDoor
set_option linter.unusedVariables false
open Go.RowKit
theorem compareIds_b (a b : IdD) (w : World) : Calls Tryz.prog 36 #[.agg #[.int .i64 a.kind, .string a.text], .agg #[.int .i64 b.kind, .string b.text]] w fun e w' => e = .returned (.int .i64 (idCmp a b)) ∧ Below w.heap.size w w' :=
  (compareIds_g a b w).mono fun e W' h => ⟨h.1, h.2.below⟩
set_option maxHeartbeats 4000000 in
set_option maxRecDepth 100000 in
theorem pcheckIds_any (H : Frz) (hM : MLen H) (A : Option Addr) (cap : Nat) (ids : List IdD) (w : World) (hH : H.In w) (hR : Rw H A 2 fId ids) (hl : ids.length ≤ 1000000) (hsz : ∀ x ∈ ids, x.text.size ≤ 1000000) :
    Calls Tryz.prog 189 #[.slice A ids.length cap] w fun e w' => e = .returned (.int .i64 (idsO ids)) ∧ Below w.heap.size w w' := by
  have HCI := Lib.hid (fun kind s W (hW : H.In W) hs => checkId_any H hM kind s W hW hs)
  have HR := Lib.hid hR
  have HH := Lib.hid hH
  have HS := Lib.hid hsz
  clear hR hH hsz
  have HV : Hid (idsO ids = fstErr (idO1 ids) ids.length) := rfl
  go_enter Tryz.func189, Tryz.ntmps189
  go_wp2_with fail
  go_loopw [8] (fun t wr => ∃ i : Nat, i ≤ ids.length ∧ t = .int .i64 i ∧ Hid (fstErr (idO1 ids) i = 0) ∧ Hid (Below w.heap.size w wr)) (fun t _ => ids.length - (intOf t).toNat)
  case atStart => exact ⟨0, by omega, rfl, rfl, Below.refl _ _⟩
  case round =>
    obtain ⟨i, hi, rfl, h0, hb⟩ := hrel
    by_cases hlt : i < ids.length
    · have hin := HH.out.below hb.out
      obtain ⟨b, off, hA, hbl, hc⟩ := HR.out.at_ hin hlt (by omega)
      have hprev : Hid (∀ p, i = p + 1 → ∀ W', Below wr.heap.size wr W' → W'.cell? ⟨b, off + p * 2, none⟩ = some (.int .i64 (ids.getD (i - 1) ids[i]).kind) ∧ W'.cell? ⟨b, off + p * 2 + 1, none⟩ = some (.string (ids.getD (i - 1) ids[i]).text)) := by
        rintro p rfl W' hW'
        have hp : p < ids.length := by omega
        obtain ⟨b', off', hA', hbl', hc'⟩ := HR.out.at_ hin hp (by omega)
        rw [hA] at hA'
        simp only [Option.some.injEq, Addr.mk.injEq] at hA'
        obtain ⟨rfl, rfl, _⟩ := hA'
        rw [Nat.add_sub_cancel, List.getD_eq_getElem?_getD, List.getElem?_eq_getElem hp, Option.getD_some]
        exact ⟨lift_cell (hc' 0 (by omega)) W' hW', lift_cell (hc' 1 (by omega)) W' hW'⟩
      subst hA
      have c0 : wr.cell? ⟨b, off + i * 2, none⟩ = some (.int .i64 ids[i].kind) := hc 0 (by omega)
      have c1 : wr.cell? ⟨b, off + i * 2 + 1, none⟩ = some (.string ids[i].text) := hc 1 (by omega)
      have HAT := Lib.hid (idO1_at hlt)
      have HBAD : Hid (∀ n, idO1 ids i = n → n ≠ 0 → idsO ids = n) := fun n h1 h2 => HV.out.trans ((fstErr_bad hlt h0.out (by rw [h1]; exact h2)).trans h1)
      have HNX : Hid (idO1 ids i = 0 → fstErr (idO1 ids) (i + 1) = 0) := fun h1 => fstErr_next h0.out h1
      have hks := HS.out _ (List.getElem_mem hlt)
      clear hc
      generalize ids.getD (i - 1) ids[i] = pd at *
      generalize ids[i] = d at *
      have z0 : (wr.alloc (.cells #[.int .i64 d.kind, .string d.text] 55)).cell? ⟨wr.heap.size, 0, none⟩ = some (.int .i64 d.kind) := newc 0 rfl
      have z1 : (wr.alloc (.cells #[.int .i64 d.kind, .string d.text] 55)).cell? ⟨wr.heap.size, 1, none⟩ = some (.string d.text) := newc 1 rfl
      have HBN := Lib.hid (new1 (w := wr) (.cells #[.int .i64 d.kind, .string d.text] 55))
      go_upto_region 4 with (fail)
      clear c0 c1
      generalize wr.alloc (.cells #[.int .i64 d.kind, .string d.text] 55) = W1 at *
      have HB1 := Lib.hid (hb.out.trans (HBN.out.mono hb.out.size))
      have HBN2 := Lib.hid HBN.out
      have HIN1 := Lib.hid (hin.below HBN.out)
      clear hb h0 HBN hin
      go_wp2_with fail
      refine (HCI.out d.kind d.text _ HIN1.out hks).mono ?_
      rintro e W2 ⟨rfl, hb2⟩
      have HB2 := Lib.hid (HB1.out.trans (hb2.mono HB1.out.size))
      have HBN3 := Lib.hid (HBN2.out.trans (hb2.mono HBN2.out.size))
      have J0 := lift_cell z0
      have J1 := lift_cell z1
      have J2 : ∀ W, Below W2.heap.size W2 W → W.cell? ⟨wr.heap.size, 0, none⟩ = some (.int .i64 d.kind) := fun W hW => J0 W (hb2.trans (hW.mono hb2.size))
      have J3 : ∀ W, Below W2.heap.size W2 W → W.cell? ⟨wr.heap.size, 1, none⟩ = some (.string d.text) := fun W hW => J1 W (hb2.trans (hW.mono hb2.size))
      clear hb2 z0 z1 J0 J1
      generalize idErr d.kind d.text = ie at HAT ⊢
      by_cases g3 : ie = 0
      · have k3 : (ie != 0) = false := by simpa using g3
        have HA3 := Lib.hid (HAT.out.trans (if_neg (by simpa using g3)))
        clear g3 HAT
        go_wp2_with fail
        rcases Nat.eq_zero_or_pos i with h0 | hpos
        · have d2 : decide ((0 : Int) < (i : Int)) = false := by simp; omega
          have hok := Lib.hid (HNX.out (HA3.out.trans (if_neg (by omega))))
          clear h0
          (refine wp_region_det 11 31 (fun W => Below (W2).heap.size (W2) W) (by kernel_rfl) (by kernel_rfl) (by rfl) (Below.refl _ _).drew ?_; simp only [List.take_succ_cons, List.take_zero, List.drop_succ_cons, List.drop_zero])
          iterate 1 (refine detSeq_op rfl ?_ (fun W hW => ?_) ?_; rotate_left; (focus simp only [OpV]; go_simp; first | exact rfl | exact ⟨rfl, hW⟩))
          (refine detSeq_op rfl (.bool false) (fun W hW => ?_) ?_; focus (simp only [OpV]; go_simp; try (first | exact rfl | exact hW | (have h9 := d2; simp at h9; omega))))
          iterate 1 (refine detSeq_op rfl ?_ (fun W hW => ?_) ?_; rotate_left; (focus simp only [OpV]; go_simp; first | exact rfl | exact ⟨rfl, hW⟩))
          iterate 8 (refine detSeq_no (by kernel_rfl) ?_)
          refine detSeq_nil (fun W3 hW3 => ?_)
          have HB3 := Lib.hid (HB2.out.trans (hW3.mono HB2.out.size))
          clear J2 J3 hW3
          go_wp2_with fail
          go_roundw
          case rel => exact ⟨i + 1, by omega, by go_num, hok, HB3⟩
          case measure => simp [intOf]; omega
        · obtain ⟨p, hp⟩ : ∃ p, i = p + 1 := ⟨i - 1, by omega⟩
          have d2 : decide ((0 : Int) < (i : Int)) = true := by simp; omega
          have a1 : IntKind.i64.wrap ((i : Int) - 1) = (p : Int) := by rw [show (i : Int) - 1 = p from by omega]; exact IntWalk.i64_in _ (by omega)
          have a6 : IntKind.i64.wrap (p : Int) = (p : Int) := IntWalk.i64_in _ (by omega)
          have a2 : (i : Int) - 1 = (p : Int) := by omega
          have a3 : (p : Int) < ids.length := by omega
          have a4 : (0 : Int) ≤ (p : Int) := by omega
          have a5 : p < ids.length := by omega
          have K0 : ∀ W, Below W2.heap.size W2 W → W.cell? ⟨b, off + p * 2, none⟩ = some (.int .i64 pd.kind) := fun W hW => (hprev.out p hp W (HBN3.out.trans (hW.mono HBN3.out.size))).1
          have K1 : ∀ W, Below W2.heap.size W2 W → W.cell? ⟨b, off + p * 2 + 1, none⟩ = some (.string pd.text) := fun W hW => (hprev.out p hp W (HBN3.out.trans (hW.mono HBN3.out.size))).2
          have HPOS : Hid (0 < i) := hpos
          clear hp hpos
          (refine wp_region_det 11 31 (fun W => Below (W2).heap.size (W2) W) (by kernel_rfl) (by kernel_rfl) (by rfl) (Below.refl _ _).drew ?_; simp only [List.take_succ_cons, List.take_zero, List.drop_succ_cons, List.drop_zero])
          iterate 1 (refine detSeq_op rfl ?_ (fun W hW => ?_) ?_; rotate_left; (focus simp only [OpV]; go_simp; first | exact rfl | exact ⟨rfl, hW⟩))
          (refine detSeq_op rfl (.bool true) (fun W hW => ?_) ?_; focus (simp only [OpV]; go_simp; try (first | exact rfl | exact hW | (have h9 := d2; simp at h9; omega))))
          iterate 1 (refine detSeq_op rfl ?_ (fun W hW => ?_) ?_; rotate_left; (focus simp only [OpV]; go_simp; first | exact rfl | exact ⟨rfl, hW⟩))
          iterate 3 (refine detSeq_yes (by kernel_rfl) ?_ (fun W hW => ?_) ?_; rotate_left; (focus simp only [OpV]; go_simp; first | exact rfl | exact ⟨rfl, hW⟩))
          (refine detSeq_yes (by kernel_rfl) (.int .i64 (p : Int)) (fun W hW => ?_) ?_; focus (simp only [OpV]; go_simp; try (first | exact rfl | exact hW | omega)))
          iterate 2 (refine detSeq_yes (by kernel_rfl) ?_ (fun W hW => ?_) ?_; rotate_left; (focus simp only [OpV]; go_simp; first | exact rfl | exact ⟨rfl, hW⟩))
          (refine detSeq_yes (by kernel_rfl) ?_ (fun W hW => ?_) ?_; rotate_left; focus (simp only [OpV]; go_simp; refine (compareIds_b d pd _).mono ?_; rintro e w' ⟨rfl, hb⟩; refine ⟨_, rfl, ?_, det_back hW hb⟩; exact rfl))
          (refine detSeq_yes (by kernel_rfl) (.bool (decide (idCmp d pd ≤ 0))) (fun W hW => ?_) ?_; focus (simp only [OpV]; go_simp; try (first | exact rfl | exact hW | exact ⟨rfl, hW⟩)))
          refine detSeq_nil (fun W3 hW3 => ?_)
          have HB3 := Lib.hid (HB2.out.trans (hW3.mono HB2.out.size))
          clear J2 J3 K0 K1 hW3
          by_cases hle : idCmp d pd ≤ 0
          · have hd : decide (idCmp d pd ≤ 0) = true := decide_eq_true hle
            have hv := Lib.hid (HBAD.out 7 (HA3.out.trans (if_pos ⟨HPOS.out, hle⟩)) (by omega))
            rw [hd]
            clear hle hd
            go_wp2_with fail
            go_ret
            exact ⟨ret_int hv.out.symm, HB3.out⟩
          · have hd : decide (idCmp d pd ≤ 0) = false := decide_eq_false hle
            have hok := Lib.hid (HNX.out (HA3.out.trans (if_neg (fun c => hle c.2))))
            rw [hd]
            clear hle hd
            go_wp2_with fail
            go_roundw
            case rel => exact ⟨i + 1, by omega, by go_num, hok, HB3⟩
            case measure => simp [intOf]; omega
      · have k3 : (ie != 0) = true := by simpa using g3
        have hv := Lib.hid (HBAD.out ie (HAT.out.trans (if_pos g3)) g3)
        clear g3
        go_wp2_with fail
        go_ret
        exact ⟨ret_int hv.out.symm, HB2.out⟩
    · have hie : i = ids.length := by omega
      subst hie
      have hv := Lib.hid (HV.out.trans h0.out)
      go_wp2_with fail
      go_ret
      exact ⟨ret_int hv.out.symm, hb.out⟩
end Go.Proofs.YtbidhpgjmcedaaaGreatDoor

/- What is wrong with a touch, with touches. -/
namespace Go.Proofs.YtbidhpgjmcedaaaGreatDoor
set_option linter.unusedVariables false
open Go.RowKit
def SzT (t : TchD) : Prop := t.source.size ≤ 1000000 ∧ (∀ x ∈ t.ids, x.text.size ≤ 1000000) ∧ (∀ f ∈ t.fields, f.name.size ≤ 1000000 ∧ f.v.text.size ≤ 1000000) ∧ t.ids.length ≤ 1000000 ∧ t.fields.length ≤ 1000000
theorem tch1_at {ok : ByteArray → Bool} {ts : List TchD} {i : Nat} (h : i < ts.length) : tch1 ok ts i = tchE ok ts[i] (prevNo ts i) := by
  unfold tch1
  rw [List.getElem?_eq_getElem h]
theorem prevNo_succ {ts : List TchD} {i : Nat} (h : i < ts.length) : prevNo ts (i + 1) = ts[i].no := by
  simp only [prevNo, List.getElem?_eq_getElem h]
theorem within_dec {a b c : Int} : (decide (a ≤ b) && decide (b ≤ c)) = decide (a ≤ b ∧ b ≤ c) := by
  by_cases h : a ≤ b <;> by_cases h' : b ≤ c <;> simp [h, h']
set_option maxHeartbeats 4000000 in
set_option maxRecDepth 100000 in
theorem checkTouch_any (H : Frz) (hU : UtfIn H) (hM : MLen H) (t : TchD) (before : Int) (w : World) (hH : H.In w) (hI : Rw H t.ia 2 fId t.ids) (hF : Rw H t.fa 4 fFd t.fields) (hsz : SzT t) :
    Calls Tryz.prog 118 #[.agg #[.int .i64 t.no, .int .i64 t.at_, .string t.source, .slice t.ia t.ids.length t.ic, .slice t.fa t.fields.length t.fc], .int .i64 before] w fun e w' => e = .returned (.int .i64 (tchE okT t before)) ∧ Below w.heap.size w w' := by
  obtain ⟨sz1, sz2, sz3, sz4, sz5⟩ := hsz
  have z0 : (w.alloc (.cells #[.int .i64 t.no, .int .i64 t.at_, .string t.source, .slice t.ia t.ids.length t.ic, .slice t.fa t.fields.length t.fc] 53)).cell? ⟨w.heap.size, 0, none⟩ = some (.int .i64 t.no) := newc 0 rfl
  have z1 : (w.alloc (.cells #[.int .i64 t.no, .int .i64 t.at_, .string t.source, .slice t.ia t.ids.length t.ic, .slice t.fa t.fields.length t.fc] 53)).cell? ⟨w.heap.size, 1, none⟩ = some (.int .i64 t.at_) := newc 1 rfl
  have z2 : (w.alloc (.cells #[.int .i64 t.no, .int .i64 t.at_, .string t.source, .slice t.ia t.ids.length t.ic, .slice t.fa t.fields.length t.fc] 53)).cell? ⟨w.heap.size, 2, none⟩ = some (.string t.source) := newc 2 rfl
  have z3 : (w.alloc (.cells #[.int .i64 t.no, .int .i64 t.at_, .string t.source, .slice t.ia t.ids.length t.ic, .slice t.fa t.fields.length t.fc] 53)).cell? ⟨w.heap.size, 3, none⟩ = some (.slice t.ia t.ids.length t.ic) := newc 3 rfl
  have z4 : (w.alloc (.cells #[.int .i64 t.no, .int .i64 t.at_, .string t.source, .slice t.ia t.ids.length t.ic, .slice t.fa t.fields.length t.fc] 53)).cell? ⟨w.heap.size, 4, none⟩ = some (.slice t.fa t.fields.length t.fc) := newc 4 rfl
  have HBN := Lib.hid (new1 (w := w) (.cells #[.int .i64 t.no, .int .i64 t.at_, .string t.source, .slice t.ia t.ids.length t.ic, .slice t.fa t.fields.length t.fc] 53))
  have HIN := Lib.hid (hH.below HBN.out)
  have HCI := Lib.hid (fun W (hW : H.In W) => pcheckIds_any H hM t.ia t.ic t.ids W hW hI sz4 sz2)
  have HCF := Lib.hid (fun W (hW : H.In W) => checkFields_any H hU t.fa t.fc t.fields W hW hF sz5 sz3)
  have HV : Hid (∀ n, tchE okT t before = n → tchE okT t before = n) := fun _ h => h
  unfold tchE at HV
  clear hI hF sz2 sz3 hU hM hH
  by_cases g1 : 1 ≤ t.no ∧ t.no ≤ 1000000
  rotate_left
  · have hv : Hid (tchE okT t before = 1) := by show _ = _; unfold tchE; rw [if_pos g1]
    have HD : Hid (decide (1 ≤ t.no ∧ t.no ≤ 1000000) = false) := decide_eq_false g1
    go_enter Tryz.func118, Tryz.ntmps118
    go_wp2_with fail
    refine (pwithin_any _ _ _ _).mono ?_
    rintro e w1 ⟨rfl, rfl⟩
    rw [within_dec, HD.out]
    go_wp2_with fail
    go_ret
    exact ⟨ret_int hv.out.symm, HBN.out⟩
  have HD1 : Hid (decide (1 ≤ t.no ∧ t.no ≤ 1000000) = true) := decide_eq_true g1
  by_cases g2 : 0 ≤ t.at_ ∧ t.at_ ≤ 4321439
  rotate_left
  · have hv : Hid (tchE okT t before = 1) := by show _ = _; unfold tchE; rw [if_neg (fun c => c g1), if_pos g2]
    have HD : Hid (decide (0 ≤ t.at_ ∧ t.at_ ≤ 4321439) = false) := decide_eq_false g2
    go_enter Tryz.func118, Tryz.ntmps118
    go_wp2_with fail
    refine (pwithin_any _ _ _ _).mono ?_
    rintro e w1 ⟨rfl, rfl⟩
    rw [within_dec, HD1.out]
    go_wp2_with fail
    refine (pwithin_any _ _ _ _).mono ?_
    rintro e w1 ⟨rfl, rfl⟩
    rw [within_dec, HD.out]
    go_wp2_with fail
    go_ret
    exact ⟨ret_int hv.out.symm, HBN.out⟩
  have HD2 : Hid (decide (0 ≤ t.at_ ∧ t.at_ ≤ 4321439) = true) := decide_eq_true g2
  have HV2 : Hid (tchE okT t before = if t.no ≤ before then 7 else if isKey t.source = false then 5 else if t.ids.length = 0 then 3 else if 10 < t.ids.length then 2 else if idsO t.ids ≠ 0 then idsO t.ids else fdsE okT t.fields) := by
    show _ = _; unfold tchE; rw [if_neg (fun c => c g1), if_neg (fun c => c g2)]
  clear HV g1 g2
  go_enter Tryz.func118, Tryz.ntmps118
  go_wp2_with fail
  refine (pwithin_any _ _ _ _).mono ?_
  rintro e w1 ⟨rfl, rfl⟩
  rw [within_dec, HD1.out]
  go_wp2_with fail
  refine (pwithin_any _ _ _ _).mono ?_
  rintro e w1 ⟨rfl, rfl⟩
  rw [within_dec, HD2.out]
  clear HD1 HD2
  by_cases g3 : t.no ≤ before
  · have d3 : decide (t.no ≤ before) = true := decide_eq_true g3
    have hv : Hid (tchE okT t before = 7) := by rw [if_pos g3] at HV2; exact HV2
    go_wp2_with fail
    go_ret
    exact ⟨ret_int hv.out.symm, HBN.out⟩
  have d3 : decide (t.no ≤ before) = false := decide_eq_false g3
  rw [if_neg g3] at HV2
  clear g3
  go_wp2_with fail
  refine (isKey_any t.source _ (by omega)).mono ?_
  rintro e w' ⟨rfl, rfl⟩
  generalize isKey t.source = k1 at HV2 ⊢
  cases k1 with
  | false =>
    rw [if_pos rfl] at HV2
    go_wp2_with fail
    go_ret
    exact ⟨ret_int HV2.out.symm, HBN.out⟩
  | true =>
    rw [if_neg (by simp)] at HV2
    by_cases g4 : t.ids.length = 0
    · have d4 : ((t.ids.length : Int) == 0) = true := by simp; exact List.length_eq_zero_iff.1 g4
      rw [if_pos g4] at HV2
      clear g4
      go_wp2_with fail
      go_ret
      exact ⟨ret_int HV2.out.symm, HBN.out⟩
    have d4 : ((t.ids.length : Int) == 0) = false := by simp; intro c; exact g4 (by rw [c]; rfl)
    rw [if_neg g4] at HV2
    clear g4
    by_cases g5 : 10 < t.ids.length
    · have d5 : decide ((10 : Int) < t.ids.length) = true := by simp; omega
      rw [if_pos g5] at HV2
      clear g5
      go_wp2_with fail
      go_ret
      exact ⟨ret_int HV2.out.symm, HBN.out⟩
    have d5 : decide ((10 : Int) < t.ids.length) = false := by simp; omega
    rw [if_neg g5] at HV2
    clear g5
    go_wp2_with fail
    refine (HCI.out _ HIN.out).mono ?_
    rintro e W2 ⟨rfl, hb2⟩
    have HB2 := Lib.hid (HBN.out.trans (hb2.mono HBN.out.size))
    have HIN2 := Lib.hid (HIN.out.below hb2)
    have y4 := lift_cell z4 W2 hb2
    clear hb2 z0 z1 z2 z3 z4
    generalize idsO t.ids = ie at HV2 ⊢
    by_cases g6 : ie = 0
    · have k3 : (ie != 0) = false := by simpa using g6
      rw [if_neg (by simpa using g6)] at HV2
      clear g6
      go_wp2_with fail
      refine (HCF.out _ HIN2.out).mono ?_
      rintro e W3 ⟨rfl, hb3⟩
      have HB3 := Lib.hid (HB2.out.trans (hb3.mono HB2.out.size))
      clear hb3
      go_wp2_with fail
      go_ret
      exact ⟨ret_int HV2.out.symm, HB3.out⟩
    · have k3 : (ie != 0) = true := by simpa using g6
      rw [if_pos g6] at HV2
      clear g6
      go_wp2_with fail
      go_ret
      exact ⟨ret_int HV2.out.symm, HB2.out⟩
set_option maxHeartbeats 4000000 in
set_option maxRecDepth 100000 in
theorem checkTchs_any (H : Frz) (hU : UtfIn H) (hM : MLen H) (A : Option Addr) (cap : Nat) (ts : List TchD) (w : World) (hH : H.In w) (hT : TchIn H A ts) (hl : ts.length ≤ 1000000) (hsz : ∀ t ∈ ts, SzT t) :
    Calls Tryz.prog 152 #[.slice A ts.length cap] w fun e w' => e = .returned (.int .i64 (tchsE okT ts)) ∧ Below w.heap.size w w' := by
  have HR := Lib.hid hT.1
  have HH := Lib.hid hH
  have HCT := Lib.hid (fun t (ht : t ∈ ts) before W (hW : H.In W) => checkTouch_any H hU hM t before W hW (hT.2 t ht).1 (hT.2 t ht).2 (hsz t ht))
  clear hT hH hsz hU hM
  by_cases hlong : 2000 < ts.length
  · have h2 : decide ((2000 : Int) < ts.length) = true := by simp; omega
    have hv : Hid (tchsE okT ts = 2) := by show _ = _; unfold tchsE; rw [if_pos hlong]
    clear hlong
    go_enter Tryz.func152, Tryz.ntmps152
    go_wp2_with fail
    go_ret
    exact ⟨ret_int hv.out.symm, Below.refl _ _⟩
  · have h2 : decide ((2000 : Int) < ts.length) = false := by simp; omega
    have HV : Hid (tchsE okT ts = fstErr (tch1 okT ts) ts.length) := by show _ = _; unfold tchsE; rw [if_neg hlong]
    clear hlong
    go_enter Tryz.func152, Tryz.ntmps152
    go_wp2_with fail
    go_loopw [3, 12] (fun v t wr => ∃ i : Nat, i ≤ ts.length ∧ t = .int .i64 i ∧ v = .int .i64 (prevNo ts i) ∧ Hid (fstErr (tch1 okT ts) i = 0) ∧ Hid (Below w.heap.size w wr)) (fun _ t _ => ts.length - (intOf t).toNat)
    case atStart => exact ⟨0, by omega, rfl, rfl, rfl, Below.refl _ _⟩
    case round =>
      obtain ⟨i, hi, rfl, rfl, h0, hb⟩ := hrel
      by_cases hlt : i < ts.length
      · have hin := HH.out.below hb.out
        obtain ⟨b, off, rfl, hbl, hc⟩ := HR.out.at_ hin hlt (by omega)
        have c0 : wr.cell? ⟨b, off + i * 5, none⟩ = some (.int .i64 ts[i].no) := hc 0 (by omega)
        have c1 : wr.cell? ⟨b, off + i * 5 + 1, none⟩ = some (.int .i64 ts[i].at_) := hc 1 (by omega)
        have c2 : wr.cell? ⟨b, off + i * 5 + 2, none⟩ = some (.string ts[i].source) := hc 2 (by omega)
        have c3 : wr.cell? ⟨b, off + i * 5 + 3, none⟩ = some (.slice ts[i].ia ts[i].ids.length ts[i].ic) := hc 3 (by omega)
        have c4 : wr.cell? ⟨b, off + i * 5 + 4, none⟩ = some (.slice ts[i].fa ts[i].fields.length ts[i].fc) := hc 4 (by omega)
        have HAT := Lib.hid (tch1_at (ok := okT) hlt)
        have HPN := Lib.hid (prevNo_succ hlt)
        have HBAD : Hid (∀ n, tch1 okT ts i = n → n ≠ 0 → tchsE okT ts = n) := fun n h1 h2 => HV.out.trans ((fstErr_bad hlt h0.out (by rw [h1]; exact h2)).trans h1)
        have HNX : Hid (tch1 okT ts i = 0 → fstErr (tch1 okT ts) (i + 1) = 0) := fun h1 => fstErr_next h0.out h1
        have HCD := Lib.hid (HCT.out _ (List.getElem_mem hlt))
        clear hc
        generalize prevNo ts i = pn at *
        generalize ts[i] = d at *
        have z0 : (wr.alloc (.cells #[.int .i64 d.no, .int .i64 d.at_, .string d.source, .slice d.ia d.ids.length d.ic, .slice d.fa d.fields.length d.fc] 53)).cell? ⟨wr.heap.size, 0, none⟩ = some (.int .i64 d.no) := newc 0 rfl
        have z1 : (wr.alloc (.cells #[.int .i64 d.no, .int .i64 d.at_, .string d.source, .slice d.ia d.ids.length d.ic, .slice d.fa d.fields.length d.fc] 53)).cell? ⟨wr.heap.size, 1, none⟩ = some (.int .i64 d.at_) := newc 1 rfl
        have z2 : (wr.alloc (.cells #[.int .i64 d.no, .int .i64 d.at_, .string d.source, .slice d.ia d.ids.length d.ic, .slice d.fa d.fields.length d.fc] 53)).cell? ⟨wr.heap.size, 2, none⟩ = some (.string d.source) := newc 2 rfl
        have z3 : (wr.alloc (.cells #[.int .i64 d.no, .int .i64 d.at_, .string d.source, .slice d.ia d.ids.length d.ic, .slice d.fa d.fields.length d.fc] 53)).cell? ⟨wr.heap.size, 3, none⟩ = some (.slice d.ia d.ids.length d.ic) := newc 3 rfl
        have z4 : (wr.alloc (.cells #[.int .i64 d.no, .int .i64 d.at_, .string d.source, .slice d.ia d.ids.length d.ic, .slice d.fa d.fields.length d.fc] 53)).cell? ⟨wr.heap.size, 4, none⟩ = some (.slice d.fa d.fields.length d.fc) := newc 4 rfl
        have HBN := Lib.hid (new1 (w := wr) (.cells #[.int .i64 d.no, .int .i64 d.at_, .string d.source, .slice d.ia d.ids.length d.ic, .slice d.fa d.fields.length d.fc] 53))
        go_upto_region 7 with (fail)
        clear c0 c1 c2 c3 c4
        generalize wr.alloc (.cells #[.int .i64 d.no, .int .i64 d.at_, .string d.source, .slice d.ia d.ids.length d.ic, .slice d.fa d.fields.length d.fc] 53) = W1 at *
        have HB1 := Lib.hid (hb.out.trans (HBN.out.mono hb.out.size))
        have HIN1 := Lib.hid (hin.below HBN.out)
        clear hb h0 HBN hin
        go_wp2_with fail
        refine (HCD.out pn _ HIN1.out).mono ?_
        rintro e W2 ⟨rfl, hb2⟩
        have HB2 := Lib.hid (HB1.out.trans (hb2.mono HB1.out.size))
        have y0 := lift_cell z0 W2 hb2
        clear hb2 z0 z1 z2 z3 z4
        generalize tchE okT d pn = ie at HAT ⊢
        by_cases g3 : ie = 0
        · have k3 : (ie != 0) = false := by simpa using g3
          have hok := Lib.hid (HNX.out (HAT.out.trans g3))
          clear g3
          go_wp2_with fail
          go_roundw
          case rel => exact ⟨i + 1, by omega, by go_num, by rw [HPN.out], hok, HB2⟩
          case measure => simp [intOf]; omega
        · have k3 : (ie != 0) = true := by simpa using g3
          have hv := Lib.hid (HBAD.out ie HAT.out g3)
          clear g3
          go_wp2_with fail
          go_ret
          exact ⟨ret_int hv.out.symm, HB2.out⟩
      · have hie : i = ts.length := by omega
        subst hie
        have hv := Lib.hid (HV.out.trans h0.out)
        go_wp2_with fail
        go_ret
        exact ⟨ret_int hv.out.symm, hb.out⟩
end Go.Proofs.YtbidhpgjmcedaaaGreatDoor

/- Normal. -/
namespace Go.Proofs.YtbidhpgjmcedaaaGreatDoor
set_option linter.unusedVariables false
open Go.RowKit
theorem res_row_tmp {P : Program} {fn : Func} {p u : Tmp} {ty : TypeId} (h : fn.results = #[.cell p ty, .tmp u]) (tmps : Array Value) (w : World) (g : Nat) (t : TypeId) (cs : Array Value) (fr : Nat × Nat) (d : TypeDesc)
    (hp : tmps.getD p undef = .pointer (some ⟨g, 0, none⟩)) (hg : w.heap[g]? = some (.cells cs t fr))
    (hu : P.underlying ty = some d) (hd : (match d with | .struct _ | .array _ _ => true | _ => false) = true) (hi : (P.info? ty).map (·.size) = some cs.size) :
    (results fn tmps).run P w = .ok (.tuple #[.agg cs, tmps.getD u undef]) w := by
  rw [results_cell_tmp h, hp]
  simp [asAddr, run_loadVar_row w g t ty cs fr d hg hu hd hi]
theorem set2R {wr : World} {r T : Nat} {a0 a1 : Value} (h : wr.heap[r]? = some (.cells #[a0, a1] T (0, 0))) (v0 v1 : Value) :
    wr.grownBy ((wr.setCell ⟨r, 0, none⟩ v0).setCell ⟨r, 1, none⟩ v1) (some r) ∧ ((wr.setCell ⟨r, 0, none⟩ v0).setCell ⟨r, 1, none⟩ v1).heap[r]? = some (.cells #[v0, v1] T (0, 0)) :=
  ⟨⟨rfl, rfl, rfl, by simp [World.setCell], fun k hk hne => (Below.heap_setCell _ _ _ k (fun e => hne (by rw [e]))).trans (Below.heap_setCell wr _ _ k (fun e => hne (by rw [e])))⟩, by simp [World.setCell, Array.getElem?_modify, h]⟩
/-- A country's number. -/
def okC (c : ByteArray) : Bool := decide (1 ≤ c.size ∧ c.size ≤ 3) && (allB digitB c && !(c.data.toList.headD 0 == 48))
theorem head_at {c : ByteArray} (h : 0 < c.size) : c.data.toList.headD 0 = c[0] := by
  cases c with
  | mk d =>
    cases d with
    | mk l =>
      cases l with
      | nil => exact absurd h (Nat.lt_irrefl 0)
      | cons x l => rfl
theorem trimL_len (l : List UInt8) (c : UInt8) : (Lib.trimB l c).length ≤ l.length := by
  unfold Lib.trimB Lib.trimLeftB Lib.trimRightB
  refine Nat.le_trans (List.dropWhile_sublist _).length_le ?_
  rw [List.length_reverse]
  refine Nat.le_trans (List.dropWhile_sublist _).length_le ?_
  rw [List.length_reverse]
  exact Nat.le_refl _
theorem trimN_size (s : ByteArray) : (trimN s).size ≤ s.size := by
  have := trimL_len s.data.toList 32
  unfold trimN
  show (List.toArray _).size ≤ _
  simpa using this
theorem trim_any (s : ByteArray) (w : World) (hs : s.size ≤ 1000000) : Calls Tryz.prog 91 #[.string s, .string ⟨#[32]⟩] w fun e w' => e = .returned (.string (trimN s)) ∧ Below w.heap.size w w' := by
  refine (Tryz.strings_Trim_one s 32 (by decide) w (by omega)).mono ?_
  rintro e w' ⟨h1, h2⟩
  refine ⟨h1, ?_⟩
  rcases h2 with rfl | rfl
  · exact Below.refl _ _
  · exact (Below.refl _ _).drew
theorem okC_digits {c : ByteArray} (h : okC c = true) : (1 ≤ c.size ∧ c.size ≤ 3) ∧ allB digitB c = true ∧ (∀ h0 : 0 < c.size, ((c[0].toNat : Int) == 48) = false) := by
  unfold okC at h
  simp only [Bool.and_eq_true, decide_eq_true_eq, Bool.not_eq_true'] at h
  refine ⟨h.1, h.2.1, fun h0 => ?_⟩
  have h3 := h.2.2
  rw [head_at h0] at h3
  apply Bool.eq_false_iff.2
  intro c2
  have h4 : (c[0].toNat : Int) = 48 := by simpa using c2
  have h5 : c[0] = 48 := UInt8.toNat_inj.1 (by show c[0].toNat = 48; omega)
  rw [h5] at h3
  simp at h3
theorem okC_not {c : ByteArray} (h1 : 1 ≤ c.size ∧ c.size ≤ 3) (h2 : allB digitB c = true) (h3 : ∀ h0 : 0 < c.size, ((c[0].toNat : Int) == 48) = false) : okC c = true := by
  unfold okC
  have h0 : 0 < c.size := by omega
  rw [decide_eq_true h1, h2, head_at h0]
  have := h3 h0
  simp only [Bool.true_and, Bool.not_eq_true']
  apply Bool.eq_false_iff.2
  intro e
  have e2 : c[0] = 48 := by simpa using e
  rw [e2] at this
  simp at this
theorem cut12_le (l : List UInt8) (c : UInt8) : (Lib.cut l [c]).1.length + (Lib.cut l [c]).2.1.length ≤ l.length := by
  by_cases h : Lib.indexByte l c < 0
  · rw [cutOne_miss h]
    simp
  · obtain ⟨i, hi⟩ := Int.eq_ofNat_of_zero_le (show 0 ≤ Lib.indexByte l c by omega)
    rw [(cutOne_hit hi).1]
    simp
    omega
theorem normS_size (kind : Int) (t country : ByteArray) : (normS kind t country).size ≤ t.size + country.size + 1 := by
  have h1 := mapS_size lowB t
  have h2 := mapS_size upB t
  unfold normS
  split
  · unfold mailN
    split
    · omega
    · show (List.toArray _).size ≤ _
      have h3 := cut1_le (mapS lowB t).data.toList 64
      have h4 := cut1_le (Lib.cut (mapS lowB t).data.toList [64]).1 43
      have h5 := cut12_le (mapS lowB t).data.toList 64
      have h6 : (mapS lowB t).data.toList.length = t.size := by rw [← h1]; simp
      simp only [List.size_toArray, List.length_append, List.length_cons, List.length_nil]
      omega
  · split
    · unfold phoneN
      have h3 := outS_size phoneBs t
      generalize outS phoneBs t = q at *
      have h4 : q.data.toList.length = q.size := by simp
      have h5 : country.data.toList.length = country.size := by simp
      unfold phoneN1
      split
      · show (List.toArray _).size ≤ _
        simp only [List.size_toArray, List.length_append, List.length_cons, List.length_nil, List.length_drop]
        omega
      · split
        · show (List.toArray _).size ≤ _
          simp only [List.size_toArray, List.length_append, List.length_cons, List.length_nil, List.length_drop]
          omega
        · split
          · show (List.toArray _).size ≤ _
            simp only [List.size_toArray, List.length_append, List.length_cons, List.length_nil]
            omega
          · omega
    · split
      · have := outS_size [32, 45] (mapS upB t)
        omega
      · have := outS_size [45] (mapS lowB t)
        omega
def normE (kind : Int) (text country : ByteArray) : Int :=
  if ¬ (1 ≤ kind ∧ kind ≤ 4) then 4 else if 200 < text.size then 1 else if okC country = false then 3 else idErr kind (normS kind (trimN text) country)
def normId (kind : Int) (text country : ByteArray) : IdD := if normE kind text country = 0 then ⟨kind, normS kind (trimN text) country⟩ else ⟨0, ⟨#[]⟩⟩
set_option maxHeartbeats 4000000 in
set_option maxRecDepth 100000 in
theorem normal_any (H : Frz) (hM : MLen H) (kind : Int) (text country : ByteArray) (w : World) (hH : H.In w) (hs : text.size ≤ 1000000) (hc : country.size ≤ 1000000) :
    Calls Tryz.prog 26 #[.int .i64 kind, .string text, .string country] w fun e w' => e = .returned (.tuple #[.agg #[.int .i64 (normId kind text country).kind, .string (normId kind text country).text], .int .i64 (normE kind text country)]) ∧ Below w.heap.size w w' := by
  have HH := Lib.hid hH
  have HMA := Lib.hid (fun s W (hW : H.In W) h => mail_any H hM s W hW h)
  have HCI := Lib.hid (fun kind s W (hW : H.In W) h => checkId_any H hM kind s W hW h)
  clear hH hM
  have HBN := Lib.hid (new1 (w := w) (.cells #[.int .i64 0, .string ⟨#[]⟩] 55))
  have hr := heap_alloc_new w (.cells #[.int .i64 0, .string ⟨#[]⟩] 55)
  have HSE : Hid ((∀ n, normE kind text country = n → n ≠ 0 → normId kind text country = ⟨0, ⟨#[]⟩⟩) ∧ (normE kind text country = 0 → normId kind text country = ⟨kind, normS kind (trimN text) country⟩)) :=
    ⟨fun n h h2 => by unfold normId; rw [if_neg (by rw [h]; exact h2)], fun h => by unfold normId; rw [if_pos h]⟩
  have HV : Hid (normE kind text country = if ¬ (1 ≤ kind ∧ kind ≤ 4) then 4 else if 200 < text.size then 1 else if okC country = false then 3 else idErr kind (normS kind (trimN text) country)) := rfl
  generalize normE kind text country = NE at *
  generalize normId kind text country = NI at *
  -- what an early error hands back
  have HERR : Hid (∀ n : Int, n ≠ 0 → NE = n → ∀ W : World, W.heap[w.heap.size]? = some (.cells #[.int .i64 0, .string ⟨#[]⟩] 55 (0, 0)) → Below w.heap.size w W → ((W.setCell ⟨w.heap.size, 0, none⟩ (.int .i64 0)).setCell ⟨w.heap.size, 1, none⟩ (.string ⟨#[]⟩)).heap[w.heap.size]? = some (.cells #[.int .i64 0, .string ⟨#[]⟩] 55 (0, 0)) ∧ Below w.heap.size w ((W.setCell ⟨w.heap.size, 0, none⟩ (.int .i64 0)).setCell ⟨w.heap.size, 1, none⟩ (.string ⟨#[]⟩)) ∧ NI = ⟨0, ⟨#[]⟩⟩) := fun n h0 h W hW hb =>
    ⟨(set2R hW _ _).2, fin_set2 hb (Nat.le_refl _) _ _, HSE.out.1 n h h0⟩
  have z0 : (w.alloc (.cells #[.int .i64 0, .string ⟨#[]⟩] 55)).cell? ⟨w.heap.size, 0, none⟩ = some (.int .i64 0) := newc 0 rfl
  have z1 : (w.alloc (.cells #[.int .i64 0, .string ⟨#[]⟩] 55)).cell? ⟨w.heap.size, 1, none⟩ = some (.string ⟨#[]⟩) := newc 1 rfl
  have f0 : (w.alloc (.cells #[.int .i64 0, .string ⟨#[]⟩] 55)).frozen? ⟨w.heap.size, 0, none⟩ = false := froz_h hr 0
  have f1 : (w.alloc (.cells #[.int .i64 0, .string ⟨#[]⟩] 55)).frozen? ⟨w.heap.size, 1, none⟩ = false := froz_h hr 1
  have HR := Lib.hid hr
  clear hr
  by_cases g1 : 1 ≤ kind ∧ kind ≤ 4
  rotate_left
  · have hv : Hid (NE = 4) := by rw [if_pos g1] at HV; exact HV
    have HD : Hid (decide (1 ≤ kind ∧ kind ≤ 4) = false) := decide_eq_false g1
    have HE := Lib.hid (HERR.out 4 (by omega) hv.out _ HR.out HBN.out)
    go_enter Tryz.func26, Tryz.ntmps26
    go_upto_region 1 with (fail)
    generalize w.alloc (.cells #[.int .i64 0, .string ⟨#[]⟩] 55) = W1 at *
    go_wp2_with fail
    refine (pwithin_any _ _ _ _).mono ?_
    rintro e w1 ⟨rfl, rfl⟩
    rw [within_dec, HD.out]
    go_wp2_with fail
    refine bodyPost_ret (res_row_tmp rfl _ _ w.heap.size 55 _ (0, 0) _ rfl HE.out.1 Tryz.underlying55 rfl (by kernel_rfl)) rfl ?_
    exact ⟨by rw [HE.out.2.2, hv.out]; rfl, HE.out.2.1⟩
  rw [if_neg (fun c => c g1)] at HV
  have HD1 : Hid (decide (1 ≤ kind ∧ kind ≤ 4) = true) := decide_eq_true g1
  go_enter Tryz.func26, Tryz.ntmps26
  go_upto_region 1 with (fail)
  generalize w.alloc (.cells #[.int .i64 0, .string ⟨#[]⟩] 55) = W1 at *
  go_wp2_with fail
  refine (pwithin_any _ _ _ _).mono ?_
  rintro e w1 ⟨rfl, rfl⟩
  rw [within_dec, HD1.out]
  by_cases g2 : 200 < text.size
  · have hv : Hid (NE = 1) := by rw [if_pos g2] at HV; exact HV
    have HE := Lib.hid (HERR.out 1 (by omega) hv.out _ HR.out HBN.out)
    go_wp2_with fail
    refine bodyPost_ret (res_row_tmp rfl _ _ w.heap.size 55 _ (0, 0) _ rfl HE.out.1 Tryz.underlying55 rfl (by kernel_rfl)) rfl ?_
    exact ⟨by rw [HE.out.2.2, hv.out]; rfl, HE.out.2.1⟩
  rw [if_neg g2] at HV
  by_cases g3 : 1 ≤ country.size ∧ country.size ≤ 3
  rotate_left
  · have HD : Hid (decide ((1 : Int) ≤ country.size ∧ (country.size : Int) ≤ 3) = false) := decide_eq_false (fun c => g3 ⟨by omega, by omega⟩)
    have hv : Hid (NE = 3) := by
      rw [if_pos (show okC country = false from by cases hq : okC country with | false => rfl | true => exact absurd (okC_digits hq).1 g3)] at HV
      exact HV
    have HE := Lib.hid (HERR.out 3 (by omega) hv.out _ HR.out HBN.out)
    go_wp2_with fail
    refine (pwithin_any _ _ _ _).mono ?_
    rintro e w1 ⟨rfl, rfl⟩
    rw [within_dec, HD.out]
    go_wp2_with fail
    refine bodyPost_ret (res_row_tmp rfl _ _ w.heap.size 55 _ (0, 0) _ rfl HE.out.1 Tryz.underlying55 rfl (by kernel_rfl)) rfl ?_
    exact ⟨by rw [HE.out.2.2, hv.out]; rfl, HE.out.2.1⟩
  have HD2 : Hid (decide ((1 : Int) ≤ country.size ∧ (country.size : Int) ≤ 3) = true) := decide_eq_true ⟨by omega, by omega⟩
  go_wp2_with fail
  refine (pwithin_any _ _ _ _).mono ?_
  rintro e w1 ⟨rfl, rfl⟩
  rw [within_dec, HD2.out]
  clear HD1 HD2
  go_wp2_with fail
  refine (all_any 90 digitB digit_any (fun _ _ => by kernel_rfl) country _ (by omega)).mono ?_
  rintro e w1 ⟨rfl, rfl⟩
  cases h4 : allB digitB country with
  | false =>
    have hv : Hid (NE = 3) := by
      rw [if_pos (show okC country = false from by cases hq : okC country with | false => rfl | true => rw [(okC_digits hq).2.1] at h4; cases h4)] at HV
      exact HV
    have HE := Lib.hid (HERR.out 3 (by omega) hv.out _ HR.out HBN.out)
    clear h4
    go_wp2_with fail
    refine bodyPost_ret (res_row_tmp rfl _ _ w.heap.size 55 _ (0, 0) _ rfl HE.out.1 Tryz.underlying55 rfl (by kernel_rfl)) rfl ?_
    exact ⟨by rw [HE.out.2.2, hv.out]; rfl, HE.out.2.1⟩
  | true =>
  have h0 : 0 < country.size := by omega
  cases h5 : ((country[0].toNat : Int) == 48) with
  | true =>
    have hv : Hid (NE = 3) := by
      rw [if_pos (show okC country = false from by cases hq : okC country with | false => rfl | true => rw [(okC_digits hq).2.2 h0] at h5; cases h5)] at HV
      exact HV
    have HE := Lib.hid (HERR.out 3 (by omega) hv.out _ HR.out HBN.out)
    clear h4
    go_wp2_with fail
    refine bodyPost_ret (res_row_tmp rfl _ _ w.heap.size 55 _ (0, 0) _ rfl HE.out.1 Tryz.underlying55 rfl (by kernel_rfl)) rfl ?_
    exact ⟨by rw [HE.out.2.2, hv.out]; rfl, HE.out.2.1⟩
  | false =>
  rw [if_neg (by rw [okC_not g3 h4 (fun _ => h5)]; simp)] at HV
  clear h4 HERR
  go_wp2_with fail
  refine (trim_any text W1 hs).mono ?_
  rintro e W2 ⟨rfl, hb⟩
  have HB2 := Lib.hid (HBN.out.trans (hb.mono HBN.out.size))
  have HR2 : Hid (W2.heap[w.heap.size]? = some (.cells #[.int .i64 0, .string ⟨#[]⟩] 55 (0, 0))) := (hb.block _ (by have := (Array.getElem?_eq_some_iff.1 HR.out).1; exact this)).trans HR.out
  have hts := trimN_size text
  generalize trimN text = t at *
  clear hb z0 z1 f0 f1 HR HBN h5
  go_upto_block 1 with (fail)
  go_cut [8] (fun s8 wx => s8 = .string (normS kind t country) ∧ Hid (Below w.heap.size w wx) ∧ Hid (wx.heap[w.heap.size]? = some (.cells #[.int .i64 0, .string ⟨#[]⟩] 55 (0, 0))))
  case first =>
    rcases (show kind = 1 ∨ kind = 2 ∨ kind = 3 ∨ kind = 4 by omega) with rfl | rfl | rfl | rfl
    · have HN : Hid (normS 1 t country = mailN (mapS lowB t)) := rfl
      go_wp2_with fail
      refine (lower_any t _ (by omega)).mono ?_
      rintro e W3 ⟨rfl, hb⟩
      have HB3 := Lib.hid (HB2.out.trans (hb.mono HB2.out.size))
      have HR3 : Hid (W3.heap[w.heap.size]? = some (.cells #[.int .i64 0, .string ⟨#[]⟩] 55 (0, 0))) := (hb.block _ (by have := (Array.getElem?_eq_some_iff.1 HR2.out).1; exact this)).trans HR2.out
      clear hb
      go_wp2_with fail
      refine (HMA.out (mapS lowB t) _ (HH.out.below HB3.out) (by rw [mapS_size]; omega)).mono ?_
      rintro e W4 ⟨rfl, hb⟩
      have HB4 := Lib.hid (HB3.out.trans (hb.mono HB3.out.size))
      have HR4 : Hid (W4.heap[w.heap.size]? = some (.cells #[.int .i64 0, .string ⟨#[]⟩] 55 (0, 0))) := (hb.block _ (by have := (Array.getElem?_eq_some_iff.1 HR3.out).1; exact this)).trans HR3.out
      clear hb
      go_wp2_with fail
      go_meet
      exact ⟨by rw [HN.out], HB4, HR4⟩
    · have HN : Hid (normS 2 t country = phoneN t country) := rfl
      go_wp2_with fail
      refine (phone_any t country _ (by omega) hc).mono ?_
      rintro e W3 ⟨rfl, hb⟩
      have HB3 := Lib.hid (HB2.out.trans (hb.mono HB2.out.size))
      have HR3 : Hid (W3.heap[w.heap.size]? = some (.cells #[.int .i64 0, .string ⟨#[]⟩] 55 (0, 0))) := (hb.block _ (by have := (Array.getElem?_eq_some_iff.1 HR2.out).1; exact this)).trans HR2.out
      clear hb
      go_wp2_with fail
      go_meet
      exact ⟨by rw [HN.out], HB3, HR3⟩
    · have HN : Hid (normS 3 t country = outS [32, 45] (mapS upB t)) := rfl
      go_wp2_with fail
      refine (upper_any t _ (by omega)).mono ?_
      rintro e W3 ⟨rfl, hb⟩
      have HB3 := Lib.hid (HB2.out.trans (hb.mono HB2.out.size))
      have HR3 : Hid (W3.heap[w.heap.size]? = some (.cells #[.int .i64 0, .string ⟨#[]⟩] 55 (0, 0))) := (hb.block _ (by have := (Array.getElem?_eq_some_iff.1 HR2.out).1; exact this)).trans HR2.out
      clear hb
      go_wp2_with fail
      refine (without_any (mapS upB t) ⟨#[32, 45]⟩ _ (by rw [mapS_size]; omega)).mono ?_
      rintro e W4 ⟨rfl, hb⟩
      have HB4 := Lib.hid (HB3.out.trans (hb.mono HB3.out.size))
      have HR4 : Hid (W4.heap[w.heap.size]? = some (.cells #[.int .i64 0, .string ⟨#[]⟩] 55 (0, 0))) := (hb.block _ (by have := (Array.getElem?_eq_some_iff.1 HR3.out).1; exact this)).trans HR3.out
      clear hb
      go_wp2_with fail
      go_meet
      exact ⟨by rw [HN.out], HB4, HR4⟩
    · have HN : Hid (normS 4 t country = outS [45] (mapS lowB t)) := rfl
      go_wp2_with fail
      refine (lower_any t _ (by omega)).mono ?_
      rintro e W3 ⟨rfl, hb⟩
      have HB3 := Lib.hid (HB2.out.trans (hb.mono HB2.out.size))
      have HR3 : Hid (W3.heap[w.heap.size]? = some (.cells #[.int .i64 0, .string ⟨#[]⟩] 55 (0, 0))) := (hb.block _ (by have := (Array.getElem?_eq_some_iff.1 HR2.out).1; exact this)).trans HR2.out
      clear hb
      go_wp2_with fail
      refine (without_any (mapS lowB t) ⟨#[45]⟩ _ (by rw [mapS_size]; omega)).mono ?_
      rintro e W4 ⟨rfl, hb⟩
      have HB4 := Lib.hid (HB3.out.trans (hb.mono HB3.out.size))
      have HR4 : Hid (W4.heap[w.heap.size]? = some (.cells #[.int .i64 0, .string ⟨#[]⟩] 55 (0, 0))) := (hb.block _ (by have := (Array.getElem?_eq_some_iff.1 HR3.out).1; exact this)).trans HR3.out
      clear hb
      go_wp2_with fail
      go_meet
      exact ⟨by rw [HN.out], HB4, HR4⟩
  case rest =>
  obtain ⟨rfl, hb3, hr3⟩ := hcut
  have hns := normS_size kind t country
  generalize normS kind t country = ns at *
  have HBA := Lib.hid (new1 (w := wc) (.cells #[.int .i64 kind, .string ns] 55))
  have z0 : (wc.alloc (.cells #[.int .i64 kind, .string ns] 55)).cell? ⟨wc.heap.size, 0, none⟩ = some (.int .i64 kind) := newc 0 rfl
  have z1 : (wc.alloc (.cells #[.int .i64 kind, .string ns] 55)).cell? ⟨wc.heap.size, 1, none⟩ = some (.string ns) := newc 1 rfl
  have hrl : w.heap.size < wc.heap.size := (Array.getElem?_eq_some_iff.1 hr3.out).1
  have HR5 : Hid ((wc.alloc (.cells #[.int .i64 kind, .string ns] 55)).heap[w.heap.size]? = some (.cells #[.int .i64 0, .string ⟨#[]⟩] 55 (0, 0))) := (heap_lt hrl).trans hr3.out
  have HB5 := Lib.hid (hb3.out.trans (HBA.out.mono hb3.out.size))
  clear HR2 HB2 hb3 hr3 HBA
  go_upto_region 17 with (fail)
  generalize wc.alloc (.cells #[.int .i64 kind, .string ns] 55) = W5 at *
  generalize wc.heap.size = xb at *
  go_wp2_with fail
  refine (HCI.out kind ns W5 (HH.out.below HB5.out) (by omega)).mono ?_
  rintro e W6 ⟨rfl, hb⟩
  have HB6 := Lib.hid (HB5.out.trans (hb.mono HB5.out.size))
  have hr6 : W6.heap[w.heap.size]? = some (.cells #[.int .i64 0, .string ⟨#[]⟩] 55 (0, 0)) := (hb.block _ (by have := (Array.getElem?_eq_some_iff.1 HR5.out).1; exact this)).trans HR5.out
  have y0 := lift_cell z0 _ hb
  have y1 := lift_cell z1 _ hb
  have q0 := cell_h hr6 0 (v := .int .i64 0) rfl
  have q1 := cell_h hr6 1 (v := .string ⟨#[]⟩) rfl
  have f0 := froz_h hr6 0
  have f1 := froz_h hr6 1
  have HR6 := Lib.hid hr6
  clear hb z0 z1 hr6 HR5
  generalize idErr kind ns = ie at *
  by_cases g : ie = 0
  · have k3 : (ie != 0) = false := by simpa using g
    have hni := HSE.out.2 (HV.out.trans g)
    have hv : Hid (NE = 0) := HV.out.trans g
    have HE : Hid (((W6.setCell ⟨w.heap.size, 0, none⟩ (.int .i64 kind)).setCell ⟨w.heap.size, 1, none⟩ (.string ns)).heap[w.heap.size]? = some (.cells #[.int .i64 kind, .string ns] 55 (0, 0)) ∧ Below w.heap.size w ((W6.setCell ⟨w.heap.size, 0, none⟩ (.int .i64 kind)).setCell ⟨w.heap.size, 1, none⟩ (.string ns)) ∧ NI = ⟨kind, ns⟩) := ⟨(set2R HR6.out _ _).2, fin_set2 HB6.out (Nat.le_refl _) _ _, hni⟩
    clear g hni
    go_wp2_with fail
    refine bodyPost_ret (res_row_tmp rfl _ _ w.heap.size 55 _ (0, 0) _ rfl HE.out.1 Tryz.underlying55 rfl (by kernel_rfl)) rfl ?_
    exact ⟨by rw [HE.out.2.2, hv.out]; rfl, HE.out.2.1⟩
  · have k3 : (ie != 0) = true := by simpa using g
    have hni := HSE.out.1 ie HV.out g
    have HE : Hid (((W6.setCell ⟨w.heap.size, 0, none⟩ (.int .i64 0)).setCell ⟨w.heap.size, 1, none⟩ (.string ⟨#[]⟩)).heap[w.heap.size]? = some (.cells #[.int .i64 0, .string ⟨#[]⟩] 55 (0, 0)) ∧ Below w.heap.size w ((W6.setCell ⟨w.heap.size, 0, none⟩ (.int .i64 0)).setCell ⟨w.heap.size, 1, none⟩ (.string ⟨#[]⟩)) ∧ NI = ⟨0, ⟨#[]⟩⟩) := ⟨(set2R HR6.out _ _).2, fin_set2 HB6.out (Nat.le_refl _) _ _, hni⟩
    clear g hni
    go_wp2_with fail
    refine bodyPost_ret (res_row_tmp rfl _ _ w.heap.size 55 _ (0, 0) _ rfl HE.out.1 Tryz.underlying55 rfl (by kernel_rfl)) rfl ?_
    exact ⟨by rw [HE.out.2.2, HV.out]; rfl, HE.out.2.1⟩
end Go.Proofs.YtbidhpgjmcedaaaGreatDoor
