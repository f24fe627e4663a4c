/- Texts of this claim, put together: ChkI, ChkT. -/
import Derived.Test.YtbidhpgjmcedaaaGreatDoorGAO
import Derived.Test.YtbidhpgjmcedaaaGreatDoorGAF
namespace Go.Proofs.YtbidhpgjmcedaaaGreatDoor
set_option linter.unusedVariables false
open Go.RowKit
theorem compareIds_b (a b : IdD) (w : World) : Calls Tryz.prog 36 #[.agg #[.int .i64 a.kind,.string a.text],.agg #[.int .i64 b.kind,.string b.text]] w fun e w' => e = .returned (.int .i64 (idCmp a b)) ∧ Below w.heap.size w w' :=
 (compareIds_g a b w).mono fun e W' h => ⟨h.1,h.2.below⟩
set_option maxHeartbeats 4000000 in
set_option maxRecDepth 100000 in
theorem pcheckIds_any (H : Frz) (hM : MLen H) (A : Option Addr) (cap : Nat) (ids : List IdD) (w : World) (hH : H.In w) (hR : Rw H A 2 fId ids) (hl : ids.length ≤ 1000000) (hsz : ∀ x ∈ ids,x.text.size ≤ 1000000) :
  Calls Tryz.prog 189 #[.slice A ids.length cap] w fun e w' => e = .returned (.int .i64 (idsO ids)) ∧ Below w.heap.size w w':=by
 have HCI:=Lib.hid (fun kind s W (hW : H.In W) hs => checkId_any H hM kind s W hW hs)
 have HR:=Lib.hid hR
 have HH:=Lib.hid hH
 have HS:=Lib.hid hsz
 clear hR hH hsz
 have HV : Hid (idsO ids = fstErr (idO1 ids) ids.length):=rfl
 go_enter Tryz.func189,Tryz.ntmps189
 go_wp2_with fail
 go_loopw [8] (fun t wr => ∃ i : Nat,i ≤ ids.length ∧ t = .int .i64 i ∧ Hid (fstErr (idO1 ids) i = 0) ∧ Hid (Below w.heap.size w wr)) (fun t _ => ids.length - (intOf t).toNat)
 case atStart => exact ⟨0,by omega,rfl,rfl,Below.refl _ _⟩
 case round =>
  obtain ⟨i,hi,rfl,h0,hb⟩:=hrel
  by_cases hlt : i < ids.length
  ·have hin:=HH.out.below hb.out
   obtain ⟨b,off,hA,hbl,hc⟩:=HR.out.at_ hin hlt (by omega)
   have hprev : Hid (∀ p,i = p + 1 → ∀ W',Below wr.heap.size wr W' → W'.cell? ⟨b,off + p * 2,none⟩ = some (.int .i64 (ids.getD (i - 1) ids[i]).kind) ∧ W'.cell? ⟨b,off + p * 2 + 1,none⟩ = some (.string (ids.getD (i - 1) ids[i]).text)):=by
    rintro p rfl W' hW'
    have hp : p < ids.length:=by omega
    obtain ⟨b',off',hA',hbl',hc'⟩:=HR.out.at_ hin hp (by omega)
    rw [hA] at hA'
    simp only [Option.some.injEq,Addr.mk.injEq] at hA'
    obtain ⟨rfl,rfl,_⟩:=hA'
    rw [Nat.add_sub_cancel,List.getD_eq_getElem?_getD,List.getElem?_eq_getElem hp,Option.getD_some]
    exact ⟨lift_cell (hc' 0 (by omega)) W' hW',lift_cell (hc' 1 (by omega)) W' hW'⟩
   subst hA
   have c0 : wr.cell? ⟨b,off + i * 2,none⟩ = some (.int .i64 ids[i].kind):=hc 0 (by omega)
   have c1 : wr.cell? ⟨b,off + i * 2 + 1,none⟩ = some (.string ids[i].text):=hc 1 (by omega)
   have HAT:=Lib.hid (idO1_at hlt)
   have HBAD : Hid (∀ n,idO1 ids i = n → n ≠ 0 → idsO ids = n):=fun n h1 h2 => HV.out.trans ((fstErr_bad hlt h0.out (by rw [h1]; exact h2)).trans h1)
   have HNX : Hid (idO1 ids i = 0 → fstErr (idO1 ids) (i + 1) = 0):=fun h1 => fstErr_next h0.out h1
   have hks:=HS.out _ (List.getElem_mem hlt)
   clear hc
   generalize ids.getD (i - 1) ids[i] = pd at *
   generalize ids[i] = d at *
   have z0 : (wr.alloc (.cells #[.int .i64 d.kind,.string d.text] 55)).cell? ⟨wr.heap.size,0,none⟩ = some (.int .i64 d.kind):=newc 0 rfl
   have z1 : (wr.alloc (.cells #[.int .i64 d.kind,.string d.text] 55)).cell? ⟨wr.heap.size,1,none⟩ = some (.string d.text):=newc 1 rfl
   have HBN:=Lib.hid (new1 (w:=wr) (.cells #[.int .i64 d.kind,.string d.text] 55))
   go_upto_region 4 with (fail)
   clear c0 c1
   generalize wr.alloc (.cells #[.int .i64 d.kind,.string d.text] 55) = W1 at *
   have HB1:=Lib.hid (hb.out.trans (HBN.out.mono hb.out.size))
   have HBN2:=Lib.hid HBN.out
   have HIN1:=Lib.hid (hin.below HBN.out)
   clear hb h0 HBN hin
   go_wp2_with fail
   refine (HCI.out d.kind d.text _ HIN1.out hks).mono ?_
   rintro e W2 ⟨rfl,hb2⟩
   have HB2:=Lib.hid (HB1.out.trans (hb2.mono HB1.out.size))
   have HBN3:=Lib.hid (HBN2.out.trans (hb2.mono HBN2.out.size))
   have J0:=lift_cell z0
   have J1:=lift_cell z1
   have J2 : ∀ W,Below W2.heap.size W2 W → W.cell? ⟨wr.heap.size,0,none⟩ = some (.int .i64 d.kind):=fun W hW => J0 W (hb2.trans (hW.mono hb2.size))
   have J3 : ∀ W,Below W2.heap.size W2 W → W.cell? ⟨wr.heap.size,1,none⟩ = some (.string d.text):=fun W hW => J1 W (hb2.trans (hW.mono hb2.size))
   clear hb2 z0 z1 J0 J1
   generalize idErr d.kind d.text = ie at HAT ⊢
   by_cases g3 : ie = 0
   ·have k3 : (ie != 0) = false:=by simpa using g3
    have HA3:=Lib.hid (HAT.out.trans (if_neg (by simpa using g3)))
    clear g3 HAT
    go_wp2_with fail
    rcases Nat.eq_zero_or_pos i with h0 | hpos
    ·have d2 : decide ((0 : Int) < (i : Int)) = false:=by simp; omega
     have hok:=Lib.hid (HNX.out (HA3.out.trans (if_neg (by omega))))
     clear h0
     (refine wp_region_det 11 31 (fun W => Below (W2).heap.size (W2) W) (by kernel_rfl) (by kernel_rfl) (by rfl) (Below.refl _ _).drew ?_; simp only [List.take_succ_cons,List.take_zero,List.drop_succ_cons,List.drop_zero])
     iterate 1 (refine detSeq_op rfl ?_ (fun W hW => ?_) ?_; rotate_left; (focus simp only [OpV]; go_simp; first | exact rfl | exact ⟨rfl,hW⟩))
     (refine detSeq_op rfl (.bool false) (fun W hW => ?_) ?_; focus (simp only [OpV]; go_simp; try (first | exact rfl | exact hW | (have h9:=d2; simp at h9; omega))))
     iterate 1 (refine detSeq_op rfl ?_ (fun W hW => ?_) ?_; rotate_left; (focus simp only [OpV]; go_simp; first | exact rfl | exact ⟨rfl,hW⟩))
     iterate 8 (refine detSeq_no (by kernel_rfl) ?_)
     refine detSeq_nil (fun W3 hW3 => ?_)
     have HB3:=Lib.hid (HB2.out.trans (hW3.mono HB2.out.size))
     clear J2 J3 hW3
     go_wp2_with fail
     go_roundw
     case rel => exact ⟨i + 1,by omega,by go_num,hok,HB3⟩
     case measure => simp [intOf]; omega
    ·obtain ⟨p,hp⟩ : ∃ p,i = p + 1:=⟨i - 1,by omega⟩
     have d2 : decide ((0 : Int) < (i : Int)) = true:=by simp; omega
     have a1 : IntKind.i64.wrap ((i : Int) - 1) = (p : Int):=by rw [show (i : Int) - 1 = p from by omega]; exact IntWalk.i64_in _ (by omega)
     have a6 : IntKind.i64.wrap (p : Int) = (p : Int):=IntWalk.i64_in _ (by omega)
     have a2 : (i : Int) - 1 = (p : Int):=by omega
     have a3 : (p : Int) < ids.length:=by omega
     have a4 : (0 : Int) ≤ (p : Int):=by omega
     have a5 : p < ids.length:=by omega
     have K0 : ∀ W,Below W2.heap.size W2 W → W.cell? ⟨b,off + p * 2,none⟩ = some (.int .i64 pd.kind):=fun W hW => (hprev.out p hp W (HBN3.out.trans (hW.mono HBN3.out.size))).1
     have K1 : ∀ W,Below W2.heap.size W2 W → W.cell? ⟨b,off + p * 2 + 1,none⟩ = some (.string pd.text):=fun W hW => (hprev.out p hp W (HBN3.out.trans (hW.mono HBN3.out.size))).2
     have HPOS : Hid (0 < i):=hpos
     clear hp hpos
     (refine wp_region_det 11 31 (fun W => Below (W2).heap.size (W2) W) (by kernel_rfl) (by kernel_rfl) (by rfl) (Below.refl _ _).drew ?_; simp only [List.take_succ_cons,List.take_zero,List.drop_succ_cons,List.drop_zero])
     iterate 1 (refine detSeq_op rfl ?_ (fun W hW => ?_) ?_; rotate_left; (focus simp only [OpV]; go_simp; first | exact rfl | exact ⟨rfl,hW⟩))
     (refine detSeq_op rfl (.bool true) (fun W hW => ?_) ?_; focus (simp only [OpV]; go_simp; try (first | exact rfl | exact hW | (have h9:=d2; simp at h9; omega))))
     iterate 1 (refine detSeq_op rfl ?_ (fun W hW => ?_) ?_; rotate_left; (focus simp only [OpV]; go_simp; first | exact rfl | exact ⟨rfl,hW⟩))
     iterate 3 (refine detSeq_yes (by kernel_rfl) ?_ (fun W hW => ?_) ?_; rotate_left; (focus simp only [OpV]; go_simp; first | exact rfl | exact ⟨rfl,hW⟩))
     (refine detSeq_yes (by kernel_rfl) (.int .i64 (p : Int)) (fun W hW => ?_) ?_; focus (simp only [OpV]; go_simp; try (first | exact rfl | exact hW | omega)))
     iterate 2 (refine detSeq_yes (by kernel_rfl) ?_ (fun W hW => ?_) ?_; rotate_left; (focus simp only [OpV]; go_simp; first | exact rfl | exact ⟨rfl,hW⟩))
     (refine detSeq_yes (by kernel_rfl) ?_ (fun W hW => ?_) ?_; rotate_left; focus (simp only [OpV]; go_simp; refine (compareIds_b d pd _).mono ?_; rintro e w' ⟨rfl,hb⟩; refine ⟨_,rfl,?_,det_back hW hb⟩; exact rfl))
     (refine detSeq_yes (by kernel_rfl) (.bool (decide (idCmp d pd ≤ 0))) (fun W hW => ?_) ?_; focus (simp only [OpV]; go_simp; try (first | exact rfl | exact hW | exact ⟨rfl,hW⟩)))
     refine detSeq_nil (fun W3 hW3 => ?_)
     have HB3:=Lib.hid (HB2.out.trans (hW3.mono HB2.out.size))
     clear J2 J3 K0 K1 hW3
     by_cases hle : idCmp d pd ≤ 0
     ·have hd : decide (idCmp d pd ≤ 0) = true:=decide_eq_true hle
      have hv:=Lib.hid (HBAD.out 7 (HA3.out.trans (if_pos ⟨HPOS.out,hle⟩)) (by omega))
      rw [hd]
      clear hle hd
      go_wp2_with fail
      go_ret
      exact ⟨ret_int hv.out.symm,HB3.out⟩
     ·have hd : decide (idCmp d pd ≤ 0) = false:=decide_eq_false hle
      have hok:=Lib.hid (HNX.out (HA3.out.trans (if_neg (fun c => hle c.2))))
      rw [hd]
      clear hle hd
      go_wp2_with fail
      go_roundw
      case rel => exact ⟨i + 1,by omega,by go_num,hok,HB3⟩
      case measure => simp [intOf]; omega
   ·have k3 : (ie != 0) = true:=by simpa using g3
    have hv:=Lib.hid (HBAD.out ie (HAT.out.trans (if_pos g3)) g3)
    clear g3
    go_wp2_with fail
    go_ret
    exact ⟨ret_int hv.out.symm,HB2.out⟩
  ·have hie : i = ids.length:=by omega
   subst hie
   have hv:=Lib.hid (HV.out.trans h0.out)
   go_wp2_with fail
   go_ret
   exact ⟨ret_int hv.out.symm,hb.out⟩
open Go.RowKit
def SzT (t : TchD) : Prop:=t.source.size ≤ 1000000 ∧ (∀ x ∈ t.ids,x.text.size ≤ 1000000) ∧ (∀ f ∈ t.fields,f.name.size ≤ 1000000 ∧ f.v.text.size ≤ 1000000) ∧ t.ids.length ≤ 1000000 ∧ t.fields.length ≤ 1000000
theorem tch1_at {ok : ByteArray → Bool} {ts : List TchD} {i : Nat} (h : i < ts.length) : tch1 ok ts i = tchE ok ts[i] (prevNo ts i):=by
 unfold tch1
 rw [List.getElem?_eq_getElem h]
theorem prevNo_succ {ts : List TchD} {i : Nat} (h : i < ts.length) : prevNo ts (i + 1) = ts[i].no:=by
 simp only [prevNo,List.getElem?_eq_getElem h]
theorem within_dec {a b c : Int} : (decide (a ≤ b) && decide (b ≤ c)) = decide (a ≤ b ∧ b ≤ c):=by
 by_cases h : a ≤ b <;> by_cases h' : b ≤ c <;> simp [h,h']
set_option maxHeartbeats 4000000 in
set_option maxRecDepth 100000 in
theorem checkTouch_any (H : Frz) (hU : UtfIn H) (hM : MLen H) (t : TchD) (before : Int) (w : World) (hH : H.In w) (hI : Rw H t.ia 2 fId t.ids) (hF : Rw H t.fa 4 fFd t.fields) (hsz : SzT t) :
  Calls Tryz.prog 118 #[.agg #[.int .i64 t.no,.int .i64 t.at_,.string t.source,.slice t.ia t.ids.length t.ic,.slice t.fa t.fields.length t.fc],.int .i64 before] w fun e w' => e = .returned (.int .i64 (tchE okT t before)) ∧ Below w.heap.size w w':=by
 obtain ⟨sz1,sz2,sz3,sz4,sz5⟩:=hsz
 have z0 : (w.alloc (.cells #[.int .i64 t.no,.int .i64 t.at_,.string t.source,.slice t.ia t.ids.length t.ic,.slice t.fa t.fields.length t.fc] 53)).cell? ⟨w.heap.size,0,none⟩ = some (.int .i64 t.no):=newc 0 rfl
 have z1 : (w.alloc (.cells #[.int .i64 t.no,.int .i64 t.at_,.string t.source,.slice t.ia t.ids.length t.ic,.slice t.fa t.fields.length t.fc] 53)).cell? ⟨w.heap.size,1,none⟩ = some (.int .i64 t.at_):=newc 1 rfl
 have z2 : (w.alloc (.cells #[.int .i64 t.no,.int .i64 t.at_,.string t.source,.slice t.ia t.ids.length t.ic,.slice t.fa t.fields.length t.fc] 53)).cell? ⟨w.heap.size,2,none⟩ = some (.string t.source):=newc 2 rfl
 have z3 : (w.alloc (.cells #[.int .i64 t.no,.int .i64 t.at_,.string t.source,.slice t.ia t.ids.length t.ic,.slice t.fa t.fields.length t.fc] 53)).cell? ⟨w.heap.size,3,none⟩ = some (.slice t.ia t.ids.length t.ic):=newc 3 rfl
 have z4 : (w.alloc (.cells #[.int .i64 t.no,.int .i64 t.at_,.string t.source,.slice t.ia t.ids.length t.ic,.slice t.fa t.fields.length t.fc] 53)).cell? ⟨w.heap.size,4,none⟩ = some (.slice t.fa t.fields.length t.fc):=newc 4 rfl
 have HBN:=Lib.hid (new1 (w:=w) (.cells #[.int .i64 t.no,.int .i64 t.at_,.string t.source,.slice t.ia t.ids.length t.ic,.slice t.fa t.fields.length t.fc] 53))
 have HIN:=Lib.hid (hH.below HBN.out)
 have HCI:=Lib.hid (fun W (hW : H.In W) => pcheckIds_any H hM t.ia t.ic t.ids W hW hI sz4 sz2)
 have HCF:=Lib.hid (fun W (hW : H.In W) => checkFields_any H hU t.fa t.fc t.fields W hW hF sz5 sz3)
 have HV : Hid (∀ n,tchE okT t before = n → tchE okT t before = n):=fun _ h => h
 unfold tchE at HV
 clear hI hF sz2 sz3 hU hM hH
 by_cases g1 : 1 ≤ t.no ∧ t.no ≤ 1000000
 rotate_left
 ·have hv : Hid (tchE okT t before = 1):=by show _ = _; unfold tchE; rw [if_pos g1]
  have HD : Hid (decide (1 ≤ t.no ∧ t.no ≤ 1000000) = false):=decide_eq_false g1
  go_enter Tryz.func118,Tryz.ntmps118
  go_wp2_with fail
  refine (pwithin_any _ _ _ _).mono ?_
  rintro e w1 ⟨rfl,rfl⟩
  rw [within_dec,HD.out]
  go_wp2_with fail
  go_ret
  exact ⟨ret_int hv.out.symm,HBN.out⟩
 have HD1 : Hid (decide (1 ≤ t.no ∧ t.no ≤ 1000000) = true):=decide_eq_true g1
 by_cases g2 : 0 ≤ t.at_ ∧ t.at_ ≤ 4321439
 rotate_left
 ·have hv : Hid (tchE okT t before = 1):=by show _ = _; unfold tchE; rw [if_neg (fun c => c g1),if_pos g2]
  have HD : Hid (decide (0 ≤ t.at_ ∧ t.at_ ≤ 4321439) = false):=decide_eq_false g2
  go_enter Tryz.func118,Tryz.ntmps118
  go_wp2_with fail
  refine (pwithin_any _ _ _ _).mono ?_
  rintro e w1 ⟨rfl,rfl⟩
  rw [within_dec,HD1.out]
  go_wp2_with fail
  refine (pwithin_any _ _ _ _).mono ?_
  rintro e w1 ⟨rfl,rfl⟩
  rw [within_dec,HD.out]
  go_wp2_with fail
  go_ret
  exact ⟨ret_int hv.out.symm,HBN.out⟩
 have HD2 : Hid (decide (0 ≤ t.at_ ∧ t.at_ ≤ 4321439) = true):=decide_eq_true g2
 have HV2 : Hid (tchE okT t before = if t.no ≤ before then 7 else if isKey t.source = false then 5 else if t.ids.length = 0 then 3 else if 10 < t.ids.length then 2 else if idsO t.ids ≠ 0 then idsO t.ids else fdsE okT t.fields):=by
  show _ = _; unfold tchE; rw [if_neg (fun c => c g1),if_neg (fun c => c g2)]
 clear HV g1 g2
 go_enter Tryz.func118,Tryz.ntmps118
 go_wp2_with fail
 refine (pwithin_any _ _ _ _).mono ?_
 rintro e w1 ⟨rfl,rfl⟩
 rw [within_dec,HD1.out]
 go_wp2_with fail
 refine (pwithin_any _ _ _ _).mono ?_
 rintro e w1 ⟨rfl,rfl⟩
 rw [within_dec,HD2.out]
 clear HD1 HD2
 by_cases g3 : t.no ≤ before
 ·have d3 : decide (t.no ≤ before) = true:=decide_eq_true g3
  have hv : Hid (tchE okT t before = 7):=by rw [if_pos g3] at HV2; exact HV2
  go_wp2_with fail
  go_ret
  exact ⟨ret_int hv.out.symm,HBN.out⟩
 have d3 : decide (t.no ≤ before) = false:=decide_eq_false g3
 rw [if_neg g3] at HV2
 clear g3
 go_wp2_with fail
 refine (isKey_any t.source _ (by omega)).mono ?_
 rintro e w' ⟨rfl,rfl⟩
 generalize isKey t.source = k1 at HV2 ⊢
 cases k1 with
 | false =>
  rw [if_pos rfl] at HV2
  go_wp2_with fail
  go_ret
  exact ⟨ret_int HV2.out.symm,HBN.out⟩
 | true =>
  rw [if_neg (by simp)] at HV2
  by_cases g4 : t.ids.length = 0
  ·have d4 : ((t.ids.length : Int) == 0) = true:=by simp; exact List.length_eq_zero_iff.1 g4
   rw [if_pos g4] at HV2
   clear g4
   go_wp2_with fail
   go_ret
   exact ⟨ret_int HV2.out.symm,HBN.out⟩
  have d4 : ((t.ids.length : Int) == 0) = false:=by simp; intro c; exact g4 (by rw [c]; rfl)
  rw [if_neg g4] at HV2
  clear g4
  by_cases g5 : 10 < t.ids.length
  ·have d5 : decide ((10 : Int) < t.ids.length) = true:=by simp; omega
   rw [if_pos g5] at HV2
   clear g5
   go_wp2_with fail
   go_ret
   exact ⟨ret_int HV2.out.symm,HBN.out⟩
  have d5 : decide ((10 : Int) < t.ids.length) = false:=by simp; omega
  rw [if_neg g5] at HV2
  clear g5
  go_wp2_with fail
  refine (HCI.out _ HIN.out).mono ?_
  rintro e W2 ⟨rfl,hb2⟩
  have HB2:=Lib.hid (HBN.out.trans (hb2.mono HBN.out.size))
  have HIN2:=Lib.hid (HIN.out.below hb2)
  have y4:=lift_cell z4 W2 hb2
  clear hb2 z0 z1 z2 z3 z4
  generalize idsO t.ids = ie at HV2 ⊢
  by_cases g6 : ie = 0
  ·have k3 : (ie != 0) = false:=by simpa using g6
   rw [if_neg (by simpa using g6)] at HV2
   clear g6
   go_wp2_with fail
   refine (HCF.out _ HIN2.out).mono ?_
   rintro e W3 ⟨rfl,hb3⟩
   have HB3:=Lib.hid (HB2.out.trans (hb3.mono HB2.out.size))
   clear hb3
   go_wp2_with fail
   go_ret
   exact ⟨ret_int HV2.out.symm,HB3.out⟩
  ·have k3 : (ie != 0) = true:=by simpa using g6
   rw [if_pos g6] at HV2
   clear g6
   go_wp2_with fail
   go_ret
   exact ⟨ret_int HV2.out.symm,HB2.out⟩
set_option maxHeartbeats 4000000 in
set_option maxRecDepth 100000 in
theorem checkTchs_any (H : Frz) (hU : UtfIn H) (hM : MLen H) (A : Option Addr) (cap : Nat) (ts : List TchD) (w : World) (hH : H.In w) (hT : TchIn H A ts) (hl : ts.length ≤ 1000000) (hsz : ∀ t ∈ ts,SzT t) :
  Calls Tryz.prog 152 #[.slice A ts.length cap] w fun e w' => e = .returned (.int .i64 (tchsE okT ts)) ∧ Below w.heap.size w w':=by
 have HR:=Lib.hid hT.1
 have HH:=Lib.hid hH
 have HCT:=Lib.hid (fun t (ht : t ∈ ts) before W (hW : H.In W) => checkTouch_any H hU hM t before W hW (hT.2 t ht).1 (hT.2 t ht).2 (hsz t ht))
 clear hT hH hsz hU hM
 by_cases hlong : 2000 < ts.length
 ·have h2 : decide ((2000 : Int) < ts.length) = true:=by simp; omega
  have hv : Hid (tchsE okT ts = 2):=by show _ = _; unfold tchsE; rw [if_pos hlong]
  clear hlong
  go_enter Tryz.func152,Tryz.ntmps152
  go_wp2_with fail
  go_ret
  exact ⟨ret_int hv.out.symm,Below.refl _ _⟩
 ·have h2 : decide ((2000 : Int) < ts.length) = false:=by simp; omega
  have HV : Hid (tchsE okT ts = fstErr (tch1 okT ts) ts.length):=by show _ = _; unfold tchsE; rw [if_neg hlong]
  clear hlong
  go_enter Tryz.func152,Tryz.ntmps152
  go_wp2_with fail
  go_loopw [3,12] (fun v t wr => ∃ i : Nat,i ≤ ts.length ∧ t = .int .i64 i ∧ v = .int .i64 (prevNo ts i) ∧ Hid (fstErr (tch1 okT ts) i = 0) ∧ Hid (Below w.heap.size w wr)) (fun _ t _ => ts.length - (intOf t).toNat)
  case atStart => exact ⟨0,by omega,rfl,rfl,rfl,Below.refl _ _⟩
  case round =>
   obtain ⟨i,hi,rfl,rfl,h0,hb⟩:=hrel
   by_cases hlt : i < ts.length
   ·have hin:=HH.out.below hb.out
    obtain ⟨b,off,rfl,hbl,hc⟩:=HR.out.at_ hin hlt (by omega)
    have c0 : wr.cell? ⟨b,off + i * 5,none⟩ = some (.int .i64 ts[i].no):=hc 0 (by omega)
    have c1 : wr.cell? ⟨b,off + i * 5 + 1,none⟩ = some (.int .i64 ts[i].at_):=hc 1 (by omega)
    have c2 : wr.cell? ⟨b,off + i * 5 + 2,none⟩ = some (.string ts[i].source):=hc 2 (by omega)
    have c3 : wr.cell? ⟨b,off + i * 5 + 3,none⟩ = some (.slice ts[i].ia ts[i].ids.length ts[i].ic):=hc 3 (by omega)
    have c4 : wr.cell? ⟨b,off + i * 5 + 4,none⟩ = some (.slice ts[i].fa ts[i].fields.length ts[i].fc):=hc 4 (by omega)
    have HAT:=Lib.hid (tch1_at (ok:=okT) hlt)
    have HPN:=Lib.hid (prevNo_succ hlt)
    have HBAD : Hid (∀ n,tch1 okT ts i = n → n ≠ 0 → tchsE okT ts = n):=fun n h1 h2 => HV.out.trans ((fstErr_bad hlt h0.out (by rw [h1]; exact h2)).trans h1)
    have HNX : Hid (tch1 okT ts i = 0 → fstErr (tch1 okT ts) (i + 1) = 0):=fun h1 => fstErr_next h0.out h1
    have HCD:=Lib.hid (HCT.out _ (List.getElem_mem hlt))
    clear hc
    generalize prevNo ts i = pn at *
    generalize ts[i] = d at *
    have z0 : (wr.alloc (.cells #[.int .i64 d.no,.int .i64 d.at_,.string d.source,.slice d.ia d.ids.length d.ic,.slice d.fa d.fields.length d.fc] 53)).cell? ⟨wr.heap.size,0,none⟩ = some (.int .i64 d.no):=newc 0 rfl
    have z1 : (wr.alloc (.cells #[.int .i64 d.no,.int .i64 d.at_,.string d.source,.slice d.ia d.ids.length d.ic,.slice d.fa d.fields.length d.fc] 53)).cell? ⟨wr.heap.size,1,none⟩ = some (.int .i64 d.at_):=newc 1 rfl
    have z2 : (wr.alloc (.cells #[.int .i64 d.no,.int .i64 d.at_,.string d.source,.slice d.ia d.ids.length d.ic,.slice d.fa d.fields.length d.fc] 53)).cell? ⟨wr.heap.size,2,none⟩ = some (.string d.source):=newc 2 rfl
    have z3 : (wr.alloc (.cells #[.int .i64 d.no,.int .i64 d.at_,.string d.source,.slice d.ia d.ids.length d.ic,.slice d.fa d.fields.length d.fc] 53)).cell? ⟨wr.heap.size,3,none⟩ = some (.slice d.ia d.ids.length d.ic):=newc 3 rfl
    have z4 : (wr.alloc (.cells #[.int .i64 d.no,.int .i64 d.at_,.string d.source,.slice d.ia d.ids.length d.ic,.slice d.fa d.fields.length d.fc] 53)).cell? ⟨wr.heap.size,4,none⟩ = some (.slice d.fa d.fields.length d.fc):=newc 4 rfl
    have HBN:=Lib.hid (new1 (w:=wr) (.cells #[.int .i64 d.no,.int .i64 d.at_,.string d.source,.slice d.ia d.ids.length d.ic,.slice d.fa d.fields.length d.fc] 53))
    go_upto_region 7 with (fail)
    clear c0 c1 c2 c3 c4
    generalize wr.alloc (.cells #[.int .i64 d.no,.int .i64 d.at_,.string d.source,.slice d.ia d.ids.length d.ic,.slice d.fa d.fields.length d.fc] 53) = W1 at *
    have HB1:=Lib.hid (hb.out.trans (HBN.out.mono hb.out.size))
    have HIN1:=Lib.hid (hin.below HBN.out)
    clear hb h0 HBN hin
    go_wp2_with fail
    refine (HCD.out pn _ HIN1.out).mono ?_
    rintro e W2 ⟨rfl,hb2⟩
    have HB2:=Lib.hid (HB1.out.trans (hb2.mono HB1.out.size))
    have y0:=lift_cell z0 W2 hb2
    clear hb2 z0 z1 z2 z3 z4
    generalize tchE okT d pn = ie at HAT ⊢
    by_cases g3 : ie = 0
    ·have k3 : (ie != 0) = false:=by simpa using g3
     have hok:=Lib.hid (HNX.out (HAT.out.trans g3))
     clear g3
     go_wp2_with fail
     go_roundw
     case rel => exact ⟨i + 1,by omega,by go_num,by rw [HPN.out],hok,HB2⟩
     case measure => simp [intOf]; omega
    ·have k3 : (ie != 0) = true:=by simpa using g3
     have hv:=Lib.hid (HBAD.out ie HAT.out g3)
     clear g3
     go_wp2_with fail
     go_ret
     exact ⟨ret_int hv.out.symm,HB2.out⟩
   ·have hie : i = ts.length:=by omega
    subst hie
    have hv:=Lib.hid (HV.out.trans h0.out)
    go_wp2_with fail
    go_ret
    exact ⟨ret_int hv.out.symm,hb.out⟩
end Go.Proofs.YtbidhpgjmcedaaaGreatDoor
