/- Texts of this claim, put together: ChkL, CompP, Clr0, Grown, SortK, SortId. -/
import Derived.Test.YtbidhpgjmcedaaaGreatDoorGAR
import Derived.Test.YtbidhpgjmcedaaaGreatDoorGAB
import Derived.Test.YtbidhpgjmcedaaaGreatDoorGAH
import Derived.Test.YtbidhpgjmcedaaaGreatDoorGAE
import Derived.Laws.IdiomCopy
import Derived.Laws.AppendOwn
import Derived.Test.YtbidhpgjmcedaaaGreatDoorGAG
import Derived.IntWalk
import Derived.Test.YtbidhpgjmcedaaaGreatDoorGAK
import Derived.Shelf.SlSortCmp.NoneTotal
import Derived.Test.YtbidhpgjmcedaaaGreatDoorLaySort
namespace Go.Proofs.YtbidhpgjmcedaaaGreatDoor
set_option linter.unusedVariables false
open Go.RowKit
theorem kd1_at {ks : List Int} {i : Nat} (h : i < ks.length) : kd1 ks i = if ¬ (1 ≤ ks[i] ∧ ks[i] ≤ 4) then 4 else if 0 < i ∧ ks[i] ≤ ks.getD (i - 1) ks[i] then 7 else 0:=by
 unfold kd1
 rw [List.getElem?_eq_getElem h]
structure SzR (r : RulD) : Prop where
 k : r.kinds.length ≤ 1000000
 w : r.weaks.length ≤ 1000000
 wt : ∀ x ∈ r.weaks,x.text.size ≤ 1000000
 u : r.surs.length ≤ 1000000
 us : ∀ s ∈ r.surs,SzS s
set_option maxHeartbeats 8000000 in
set_option maxRecDepth 100000 in
theorem checkRules_any (H : Frz) (hM : MLen H) (r : RulD) (w : World) (hH : H.In w) (hR : RulIn H r) (hz : SzR r) :
  Calls Tryz.prog 116 #[.agg #[.slice r.ka r.kinds.length r.kc,.int .i64 r.most,.slice r.wa r.weaks.length r.wc,.slice r.sa r.surs.length r.sc]] w fun e w' => e = .returned (.int .i64 (rulE r)) ∧ Below w.heap.size w w':=by
 have z0 : (w.alloc (.cells #[.slice r.ka r.kinds.length r.kc,.int .i64 r.most,.slice r.wa r.weaks.length r.wc,.slice r.sa r.surs.length r.sc] 44)).cell? ⟨w.heap.size,0,none⟩ = some (.slice r.ka r.kinds.length r.kc):=newc 0 rfl
 have z1 : (w.alloc (.cells #[.slice r.ka r.kinds.length r.kc,.int .i64 r.most,.slice r.wa r.weaks.length r.wc,.slice r.sa r.surs.length r.sc] 44)).cell? ⟨w.heap.size,1,none⟩ = some (.int .i64 r.most):=newc 1 rfl
 have z2 : (w.alloc (.cells #[.slice r.ka r.kinds.length r.kc,.int .i64 r.most,.slice r.wa r.weaks.length r.wc,.slice r.sa r.surs.length r.sc] 44)).cell? ⟨w.heap.size,2,none⟩ = some (.slice r.wa r.weaks.length r.wc):=newc 2 rfl
 have z3 : (w.alloc (.cells #[.slice r.ka r.kinds.length r.kc,.int .i64 r.most,.slice r.wa r.weaks.length r.wc,.slice r.sa r.surs.length r.sc] 44)).cell? ⟨w.heap.size,3,none⟩ = some (.slice r.sa r.surs.length r.sc):=newc 3 rfl
 have HBN:=Lib.hid (new1 (w:=w) (.cells #[.slice r.ka r.kinds.length r.kc,.int .i64 r.most,.slice r.wa r.weaks.length r.wc,.slice r.sa r.surs.length r.sc] 44))
 have HIN:=Lib.hid (hH.below HBN.out)
 have HCI:=Lib.hid (fun W (hW : H.In W) => pcheckIds_any H hM r.wa r.wc r.weaks W hW hR.w hz.w hz.wt)
 have HCS:=Lib.hid (fun W (hW : H.In W) => checkSurvive_any H r.sa r.sc r.surs W hW hR.u hR.s hz.u hz.us)
 have HK:=Lib.hid hR.k
 have hkl:=hz.k
 have hwl:=hz.w
 have HV : Hid (rulE r = if kdsE r.kinds ≠ 0 then kdsE r.kinds else if ¬ (2 ≤ r.most ∧ r.most ≤ 2000) then 1 else if 200 < r.weaks.length then 2 else if idsO r.weaks ≠ 0 then idsO r.weaks else sursE r.surs):=rfl
 generalize rulE r = RE at HV ⊢
 obtain ⟨ka,kc,kinds,most,wa,wc,weaks,sa,sc,surs⟩:=r
 dsimp only at *
 clear hR hz hH
 by_cases hz0 : kinds.length = 0
 ·have h1 : ((kinds.length : Int) == 0) = true:=by simp; exact List.length_eq_zero_iff.1 hz0
  have hv : Hid (RE = 3):=by
   have hk : kdsE kinds = 3:=by unfold kdsE; rw [if_pos hz0]
   show _ = _
   rw [HV.out,hk]; rfl
  clear hz0
  go_enter Tryz.func116,Tryz.ntmps116
  go_wp2_with fail
  go_ret
  exact ⟨ret_int hv.out.symm,HBN.out⟩
 have h1 : ((kinds.length : Int) == 0) = false:=by simp; intro c; exact hz0 (by rw [c]; rfl)
 have HV1 : Hid (kdsE kinds = fstErr (kd1 kinds) kinds.length):=by show _ = _; unfold kdsE; rw [if_neg hz0]
 clear hz0
 go_enter Tryz.func116,Tryz.ntmps116
 go_wp2_with fail
 go_loopw [13] (fun t wr => ∃ i : Nat,i ≤ kinds.length ∧ t = .int .i64 i ∧ Hid (fstErr (kd1 kinds) i = 0) ∧ Hid (wr = w.alloc (.cells #[.slice ka kinds.length kc,.int .i64 most,.slice wa weaks.length wc,.slice sa surs.length sc] 44))) (fun t _ => kinds.length - (intOf t).toNat)
 case atStart => exact ⟨0,by omega,rfl,rfl,rfl⟩
 case round =>
  obtain ⟨i,hi,rfl,h0,hwr⟩:=hrel
  have hwr:=hwr.out
  subst hwr
  generalize w.alloc (.cells #[.slice ka kinds.length kc,.int .i64 most,.slice wa weaks.length wc,.slice sa surs.length sc] 44) = W1 at *
  by_cases hlt : i < kinds.length
  ·obtain ⟨b,off,rfl,hbl,hc⟩:=HK.out.at_ HIN.out hlt (by omega)
   have c0 : W1.cell? ⟨b,off + i,none⟩ = some (.int .i64 kinds[i]):=by simpa [fI] using hc 0 (by omega)
   have HAT:=Lib.hid (kd1_at hlt)
   have HBAD : Hid (∀ n,kd1 kinds i = n → n ≠ 0 → RE = n):=fun n h1 h2 => by
    have hk : kdsE kinds = n:=HV1.out.trans ((fstErr_bad hlt h0.out (by rw [h1]; exact h2)).trans h1)
    rw [HV.out,hk,if_pos h2]
   have HNX : Hid (kd1 kinds i = 0 → fstErr (kd1 kinds) (i + 1) = 0):=fun h1 => fstErr_next h0.out h1
   have HPREV : Hid (∀ p,i = p + 1 → W1.cell? ⟨b,off + p,none⟩ = some (.int .i64 (kinds.getD (i - 1) kinds[i]))):=by
    rintro p rfl
    have hp : p < kinds.length:=by omega
    obtain ⟨b',off',hA',hbl',hc'⟩:=HK.out.at_ HIN.out hp (by omega)
    simp only [Option.some.injEq,Addr.mk.injEq] at hA'
    obtain ⟨rfl,rfl,_⟩:=hA'
    rw [Nat.add_sub_cancel,List.getD_eq_getElem?_getD,List.getElem?_eq_getElem hp,Option.getD_some]
    simpa [fI] using hc' 0 (by omega)
   clear hc
   generalize kinds.getD (i - 1) kinds[i] = pk at *
   generalize kinds[i] = k at *
   go_wp2_with fail
   refine (pwithin_any _ _ _ _).mono ?_
   rintro e w9 ⟨rfl,rfl⟩
   rw [within_dec]
   by_cases g2 : 1 ≤ k ∧ k ≤ 4
   rotate_left
   ·have hv:=Lib.hid (HBAD.out 4 (HAT.out.trans (if_pos g2)) (by omega))
    rw [decide_eq_false g2]
    clear g2
    go_wp2_with fail
    go_ret
    exact ⟨ret_int hv.out.symm,HBN.out⟩
   have HA2:=Lib.hid (HAT.out.trans (if_neg (fun c => c g2)))
   rw [decide_eq_true g2]
   clear g2 HAT
   rcases Nat.eq_zero_or_pos i with h0' | hpos
   ·have d2 : decide ((0 : Int) < (i : Int)) = false:=by simp; omega
    have hok:=Lib.hid (HNX.out (HA2.out.trans (if_neg (by omega))))
    subst h0'
    go_wp2_with fail
    go_roundw
    case rel => exact ⟨0 + 1,by omega,by go_num,hok,(by first | exact rfl | exact trivial)⟩
    case measure => simp [intOf]; omega
   ·obtain ⟨p,hp⟩ : ∃ p,i = p + 1:=⟨i - 1,by omega⟩
    have c1:=HPREV.out p hp
    have HPOS : Hid (0 < i):=hpos
    subst hp
    have a1 : IntKind.i64.wrap (((p + 1 : Nat) : Int) - 1) = (p : Int):=by rw [show ((p + 1 : Nat) : Int) - 1 = p from by omega]; exact IntWalk.i64_in _ (by omega)
    have a6 : IntKind.i64.wrap (p : Int) = (p : Int):=IntWalk.i64_in _ (by omega)
    have a3 : (p : Int) < kinds.length:=by omega
    have a4 : (0 : Int) ≤ (p : Int):=by omega
    have a5 : p < kinds.length:=by omega
    by_cases hle : k ≤ pk
    ·have hv:=Lib.hid (HBAD.out 7 (HA2.out.trans (if_pos ⟨HPOS.out,hle⟩)) (by omega))
     go_wp2_with fail
     go_ret
     exact ⟨ret_int hv.out.symm,HBN.out⟩
    ·have hok:=Lib.hid (HNX.out (HA2.out.trans (if_neg (fun c => hle c.2))))
     go_wp2_with fail
     go_roundw
     case rel => exact ⟨p + 1 + 1,by omega,by go_num,hok,(by first | exact rfl | exact trivial)⟩
     case measure => simp [intOf]; omega
  ·have hie : i = kinds.length:=by omega
   subst hie
   have hk0 : kdsE kinds = 0:=HV1.out.trans h0.out
   rw [hk0,if_neg (by simp)] at HV
   clear hk0 HV1 h0
   go_wp2_with fail
   refine (pwithin_any _ _ _ _).mono ?_
   rintro e w9 ⟨rfl,rfl⟩
   rw [within_dec]
   by_cases g2 : 2 ≤ most ∧ most ≤ 2000
   rotate_left
   ·rw [if_pos g2] at HV
    rw [decide_eq_false g2]
    clear g2
    go_wp2_with fail
    go_ret
    exact ⟨ret_int HV.out.symm,HBN.out⟩
   rw [if_neg (fun c => c g2)] at HV
   rw [decide_eq_true g2]
   clear g2
   by_cases g5 : 200 < weaks.length
   ·have d5 : decide ((200 : Int) < weaks.length) = true:=by simp; omega
    rw [if_pos g5] at HV
    clear g5
    go_wp2_with fail
    go_ret
    exact ⟨ret_int HV.out.symm,HBN.out⟩
   have d5 : decide ((200 : Int) < weaks.length) = false:=by simp; omega
   rw [if_neg g5] at HV
   clear g5
   go_wp2_with fail
   refine (HCI.out _ HIN.out).mono ?_
   rintro e W2 ⟨rfl,hb2⟩
   have HB2:=Lib.hid (HBN.out.trans (hb2.mono HBN.out.size))
   have HIN2:=Lib.hid (HIN.out.below hb2)
   have y3:=lift_cell z3 W2 hb2
   clear hb2 z0 z1 z2 z3
   generalize idsO weaks = ie at HV ⊢
   by_cases g6 : ie = 0
   ·have k3 : (ie != 0) = false:=by simpa using g6
    rw [if_neg (by simpa using g6)] at HV
    clear g6
    go_wp2_with fail
    refine (HCS.out _ HIN2.out).mono ?_
    rintro e W3 ⟨rfl,hb3⟩
    have HB3:=Lib.hid (HB2.out.trans (hb3.mono HB2.out.size))
    clear hb3
    go_wp2_with fail
    go_ret
    exact ⟨ret_int HV.out.symm,HB3.out⟩
   ·have k3 : (ie != 0) = true:=by simpa using g6
    rw [if_pos g6] at HV
    clear g6
    go_wp2_with fail
    go_ret
    exact ⟨ret_int HV.out.symm,HB2.out⟩
open Go.RowKit
section
variable {D : Type}
def compG (eq : D → D → Bool) : D → List D → List D
 | _,[] => []
 | p,y :: l => if eq y p = true then compG eq y l else y :: compG eq y l
def compF (eq : D → D → Bool) : List D → List D
 | [] => []
 | x :: l => x :: compG eq x l
theorem compG_sub (eq : D → D → Bool) : ∀ (l : List D) (p : D),(compG eq p l).Sublist l
 | [],p => List.Sublist.refl _
 | y :: l,p => by
  unfold compG
  split
  ·exact (compG_sub eq l y).cons y
  ·exact (compG_sub eq l y).cons_cons y
theorem compF_sub (eq : D → D → Bool) : ∀ (l : List D),(compF eq l).Sublist l
 | [] => List.Sublist.refl _
 | x :: l => (compG_sub eq l x).cons_cons x
theorem compG_snoc (eq : D → D → Bool) (y : D) : ∀ (l : List D) (p : D),compG eq p (l ++ [y]) = compG eq p l ++ (if eq y ((p :: l).getLast (by simp)) = true then [] else [y])
 | [],p => by
  show (if eq y p = true then _ else _) = _
  simp only [compG,List.getLast_singleton,List.nil_append]
  rfl
 | z :: l,p => by
  rw [List.cons_append]
  unfold compG
  have ih:=compG_snoc eq y l z
  rw [List.getLast_cons (by simp)]
  split
  ·exact ih
  ·rw [ih]; rfl
theorem compF_snoc (eq : D → D → Bool) (l : List D) (y z : D) (hz : l.getLast? = some z) : compF eq (l ++ [y]) = compF eq l ++ (if eq y z = true then [] else [y]):=by
 cases l with
 | nil => cases hz
 | cons x l =>
  show x :: compG eq x (l ++ [y]) = (x :: compG eq x l) ++ _
  rw [compG_snoc]
  rw [List.getLast?_eq_some_getLast (by simp)] at hz
  injection hz with hz
  rw [hz]
  rfl
theorem compF_take (eq : D → D → Bool) (ds : List D) (i : Nat) (h0 : 0 < i) (hi : i < ds.length) : compF eq (ds.take (i + 1)) = compF eq (ds.take i) ++ (if eq ds[i] (ds[i - 1]'(by omega)) = true then [] else [ds[i]]):=by
 rw [List.take_succ_eq_append_getElem hi]
 refine compF_snoc eq _ _ _ ?_
 rw [List.getLast?_take]
 rw [if_neg (by omega),List.getElem?_eq_getElem (by omega)]
 rfl
theorem compF_one (eq : D → D → Bool) (ds : List D) (h : 0 < ds.length) : compF eq (ds.take 1) = ds.take 1:=by
 cases ds with
 | nil => cases h
 | cons x l => rfl
theorem comp_cov {eq : D → D → Bool} (hr : ∀ a,eq a a = true) (hs : ∀ a b,eq a b = true → eq b a = true) (ht : ∀ a b c,eq a b = true → eq b c = true → eq a c = true) : ∀ (l : List D) (p q : D),eq p q = true → ∀ x ∈ l,∃ y ∈ q :: compG eq p l,eq x y = true
 | [],p,q,_,x,hx => by cases hx
 | z :: l,p,q,h,x,hx => by
  unfold compG
  by_cases c : eq z p = true
  ·rw [if_pos c]
   have hz : eq z q = true:=ht _ _ _ c h
   rcases List.mem_cons.1 hx with rfl | hx
   ·exact ⟨q,by simp,hz⟩
   ·exact comp_cov hr hs ht l z q hz x hx
  ·rw [if_neg c]
   rcases List.mem_cons.1 hx with rfl | hx
   ·exact ⟨x,by simp,hr x⟩
   ·obtain ⟨y,hy,e⟩:=comp_cov hr hs ht l z z (hr z) x hx
    exact ⟨y,List.mem_cons_of_mem _ hy,e⟩
theorem compF_cov {eq : D → D → Bool} (hr : ∀ a,eq a a = true) (hs : ∀ a b,eq a b = true → eq b a = true) (ht : ∀ a b c,eq a b = true → eq b c = true → eq a c = true) {l : List D} {x : D} (hx : x ∈ l) : ∃ y ∈ compF eq l,eq x y = true:=by
 cases l with
 | nil => cases hx
 | cons z l =>
  rcases List.mem_cons.1 hx with rfl | hx
  ·exact ⟨x,by simp [compF],hr x⟩
  ·exact comp_cov hr hs ht l z z (hr z) x hx
end
structure CompOk {D : Type} (eq : D → D → Bool) (ds cur : List D) (i j : Nat) : Prop where
 len : cur.length = ds.length
 pos : 1 ≤ i
 le : i < j
 lt : j ≤ ds.length
 low : cur.take i = compF eq (ds.take j)
 high : cur.drop (j - 1) = ds.drop (j - 1)
section
variable {D : Type} {eq : D → D → Bool} {ds cur : List D} {i j : Nat}
theorem CompOk.get (h : CompOk eq ds cur i j) {m : Nat} (h1 : j - 1 ≤ m) (hm : m < ds.length) : cur[m]'(by rw [h.len]; exact hm) = ds[m]:=by
 have e:=congrArg (fun l => l[m - (j - 1)]?) h.high
 simp only [List.getElem?_drop] at e
 rw [show j - 1 + (m - (j - 1)) = m from by omega,List.getElem?_eq_getElem (by rw [h.len]; exact hm),List.getElem?_eq_getElem hm] at e
 exact Option.some.inj e
theorem CompOk.drop (h : CompOk eq ds cur i j) (hj : j < ds.length) (hp : eq ds[j] (ds[j - 1]'(by omega)) = true) : CompOk eq ds cur i (j + 1):=by
 have hle:=h.le
 have hpos:=h.pos
 refine ⟨h.len,h.pos,by omega,hj,?_,?_⟩
 ·rw [compF_take eq ds j (by omega) hj,if_pos hp,List.append_nil,h.low]
 ·have : (cur.drop (j - 1)).drop 1 = (ds.drop (j - 1)).drop 1:=by rw [h.high]
  rw [List.drop_drop,List.drop_drop] at this
  rw [show j + 1 - 1 = j - 1 + 1 from by omega]
  exact this
theorem CompOk.keep (h : CompOk eq ds cur i j) (hj : j < ds.length) (hp : eq ds[j] (ds[j - 1]'(by omega)) = false) : CompOk eq ds (cur.set i ds[j]) (i + 1) (j + 1):=by
 have hle:=h.le
 have hpos:=h.pos
 have hl:=h.len
 refine ⟨by simp [hl],by omega,by omega,hj,?_,?_⟩
 ·rw [compF_take eq ds j (by omega) hj,if_neg (by rw [hp]; decide),List.take_succ_eq_append_getElem (by simp; omega),List.take_set_of_le (Nat.le_refl _),h.low]
  simp
 ·have : (cur.drop (j - 1)).drop 1 = (ds.drop (j - 1)).drop 1:=by rw [h.high]
  rw [List.drop_drop,List.drop_drop] at this
  rw [show j + 1 - 1 = j - 1 + 1 from by omega,List.drop_set_of_lt (by omega)]
  exact this
theorem CompOk.done (h : CompOk eq ds cur i ds.length) : cur.take i = compF eq ds:=by rw [h.low,List.take_length]
theorem CompOk.start {k : Nat} (h1 : 1 ≤ k) (hk : k < ds.length) (h : compF eq (ds.take k) = ds.take k) (hp : eq ds[k] (ds[k - 1]'(by omega)) = true) : CompOk eq ds ds k (k + 1):=by
 refine ⟨rfl,h1,by omega,hk,?_,rfl⟩
 rw [compF_take eq ds k (by omega) hk,if_pos hp,List.append_nil,h]
end
open Go.RowKit
theorem setCells_eq (w : World) (b : Nat) : ∀ (vs : List Value) (o : Nat) (w : World),w.setCells b o vs = setK w b o vs
 | [],_,_ => rfl
 | v :: r,o,w => by rw [World.setCells,setK]; exact setCells_eq w b r (o + 1) _
theorem run_clear_rows {P : Program} (w : World) (t e ty : TypeId) (z : Value) (ht : P.underlying t = some (.slice e)) (hv : ∀ w,(zeroValue e).run P w = .ok z w) (k : Nat) (hk : z.cells.size = k) (h0 : 0 < k) (h1 : ∀ v ∈ z.cells.toList,v.oneCell' = true) (b o n c : Nat) (hn : 0 < n)
  (hc : ∀ j,j < n * k → (w.cell? ⟨b,o + j,none⟩).isSome = true) (hf : ∀ j,j < n * k → w.frozen? ⟨b,o + j,none⟩ = false) :
  (Builtin.clear_ #[t] ty #[.slice (some ⟨b,o,none⟩) n c]).run P w = .ok (.tuple #[]) (setK w b o (Builtin.zeroCells z.cells n).toList):=by
 have hl : (Builtin.zeroCells z.cells n).toList.length = n * k:=by rw [Array.length_toList,size_zeroCells,hk]
 have hst:=run_storeCells_cells (P:=P) b o (Builtin.zeroCells z.cells n).toList 0 w (by rw [hl]; simpa using hc) (by rw [hl]; simpa using hf) (by
  intro v hv'
  simp only [Builtin.zeroCells,Array.toList_map,List.mem_map] at hv'
  obtain ⟨i,_,rfl⟩:=hv'
  apply h1
  rw [getElem!_pos z.cells (i % z.cells.size) (Nat.mod_lt _ (by omega))]
  simp)
 simp only [Nat.add_zero] at hst
 obtain ⟨m,rfl⟩ : ∃ m,n = m + 1:=⟨n - 1,by omega⟩
 simp [Builtin.clear_,run_underlying ht,hv,hst,setCells_eq w b]
theorem KBlk.cut {D : Type} {w : World} {g T k : Nat} {f : D → Nat → Value} {ds : List D} {rest : List Value} (h : KBlk w g T k f ds rest) {i : Nat} (hi : i ≤ ds.length) (l : List Value) (hl : l.length = (ds.length - i) * k) :
  KBlk (setK w g (i * k) l) g T k f (ds.take i) (l ++ rest):=by
 unfold KBlk at h ⊢
 have hm : i * k + (ds.length - i) * k = ds.length * k:=by rw [← Nat.add_mul]; congr 1; omega
 have hL:=cellsOf_len k f ds
 rw [setK_heap w g (i * k) l h (by simp only [List.size_toArray,List.length_append]; omega)]
 have e : cellsOf k f ds = cellsOf k f (ds.take i) ++ cellsOf k f (ds.drop i):=by rw [← cellsOf_split,List.take_append_drop]
 have l1 : (cellsOf k f (ds.take i)).length = i * k:=by rw [cellsOf_len,List.length_take]; congr 1; omega
 congr 3
 rw [e,List.append_assoc,List.append_assoc,List.take_left' l1]
 congr 1
 congr 1
 rw [← List.append_assoc,List.drop_left' (by rw [List.length_append,l1,cellsOf_len,List.length_drop,hl])]
theorem Frz.Le.in_ {H H' : Frz} {W : World} (hl : H.Le H') (h : H'.In W) : H.In W:=fun b o e => h b o (hl b o e)
open Go.RowKit
theorem grown_drewN' {a b : World} {row : Option Nat} (h : a.grownBy b row) (n : Nat) : a.grownBy (b.drewN n) row:=⟨h.os,h.tape,h.output,h.size,h.block⟩
open Go.RowKit Go.Sort
section
variable {D : Type} [Inhabited D] {w : World} {g T k : Nat} {f : D → Nat → Value} {ds ds' : List D} {rest : List Value}
def encK (k : Nat) (f : D → Nat → Value) (d : D) : List Value:=(List.range k).map (f d)
omit [Inhabited D] in
theorem encK_len (d : D) : (encK k f d).length = k:=by simp [encK]
theorem flatK_list (ds : List D) : (flatK (encK k f) k ds.toArray).toList = cellsOf k f ds:=by
 apply List.ext_getElem?
 intro t
 by_cases h : t < ds.length * k
 ·have hk : 0 < k:=by
   rcases Nat.eq_zero_or_pos k with h0 | h0
   ·subst h0; simp at h
   ·exact h0
  have h1 : t / k < ds.length:=(Nat.div_lt_iff_lt_mul hk).2 h
  have h2 : t % k < k:=Nat.mod_lt _ hk
  have h3:=cellsOf_get k f ds (t / k) (t % k) h1 h2
  rw [Nat.div_add_mod' t k] at h3
  rw [h3,Array.getElem?_toList]
  have hs : t < (flatK (encK k f) k ds.toArray).size:=by simpa using h
  have h4:=get_flatK (encK k f) k ds.toArray t (by simpa using h)
  rw [getElem!_pos _ t hs] at h4
  rw [Array.getElem?_eq_getElem hs,h4]
  rw [getElem!_pos ds.toArray (t / k) (by simpa using h1),getElem!_pos _ (t % k) (by rw [encK_len]; exact h2)]
  simp [encK]
 ·rw [List.getElem?_eq_none (by simp; omega),List.getElem?_eq_none (by rw [cellsOf_len]; omega)]
theorem holdsK_of_blk (h : KBlk w g T k f ds rest) : HoldsK (encK k f) k w g 0 ds.toArray:=by
 intro j hj
 have hj' : j < (cellsOf k f ds).length:=by rw [cellsOf_len]; simpa using hj
 refine ⟨?_,by rw [Nat.zero_add]; exact h.frozen j⟩
 unfold KBlk at h
 have e:=flatK_list (k:=k) (f:=f) ds
 have h1 : (flatK (encK k f) k ds.toArray)[j]! = (cellsOf k f ds)[j]:=by
  rw [getElem!_pos _ j hj,← Array.getElem_toList]
  exact List.getElem_of_eq e _
 rw [h1]
 simp only [World.cell?,h,Nat.zero_add]
 simp only [Option.isSome_none,Bool.false_eq_true,if_false,List.getElem?_toArray]
 rw [List.getElem?_append_left hj',List.getElem?_eq_getElem hj']
 rfl
theorem kblk_sortWorldK (h : KBlk w g T k f ds rest) (hl : ds'.length = ds.length) (n : Nat) (os : Array Obj) : KBlk (sortWorldK (encK k f) k w g 0 n ds'.toArray os) g T k f ds' rest:=by
 have hlt:=h.lt
 unfold KBlk at h ⊢
 unfold sortWorldK
 rw [heap_grow_old _ _ (by unfold putRowK; simpa [putRow,mapBlock] using hlt)]
 have e : (putRowK (encK k f) k (Sort.ahead w n) g 0 ds'.toArray).heap[g]? = some (.cells (putCells id 0 (flatK (encK k f) k ds'.toArray) (cellsOf k f ds ++ rest).toArray) T (0,0)):=by
  unfold putRowK
  simp [putRow,mapBlock,Array.getElem?_modify,h,onCells]
 rw [e]
 congr 2
 apply Array.ext_getElem?
 intro j
 have l1 : (cellsOf k f ds).length = ds.length * k:=cellsOf_len _ _ _
 have l2 : (cellsOf k f ds').length = ds'.length * k:=cellsOf_len _ _ _
 rw [hl] at l2
 have e:=flatK_list (k:=k) (f:=f) ds'
 have hsz : (flatK (encK k f) k ds'.toArray).size = ds.length * k:=by simp [hl]
 unfold putCells
 rw [Array.getElem?_mapIdx,List.getElem?_toArray,List.getElem?_toArray]
 by_cases c : j < ds.length * k
 ·rw [List.getElem?_append_left (by rw [l1]; exact c),List.getElem?_append_left (by rw [l2]; exact c),List.getElem?_eq_getElem (by rw [l1]; exact c),List.getElem?_eq_getElem (by rw [l2]; exact c)]
  simp only [Option.map_some,Nat.zero_le,Nat.zero_add,Nat.sub_zero,true_and,hsz,if_pos c,id]
  congr 1
  rw [getElem!_pos _ j (by rw [hsz]; exact c),← Array.getElem_toList]
  exact List.getElem_of_eq e _
 ·rw [List.getElem?_append_right (by rw [l1]; omega),List.getElem?_append_right (by rw [l2]; omega),l1,l2]
  simp only [Nat.zero_le,Nat.zero_add,true_and,hsz,if_neg c,Option.map_id']
theorem grown_sortWorldK (enc : D → List Value) (k n : Nat) (d : Array D) (os : Array Obj) : w.grownBy (sortWorldK enc k w g 0 n d os) (some g):=by
 unfold sortWorldK putRowK
 refine ⟨rfl,rfl,rfl,by simp [putRow,mapBlock],fun i hi hne => ?_⟩
 rw [heap_grow_old _ _ (by simpa [putRow,mapBlock] using hi)]
 have : g ≠ i:=fun e => hne (by rw [e])
 simp [putRow,mapBlock,Array.getElem?_modify,this]
theorem permIn_list {d d' : Array D} (h : PermIn 0 d.size d d') : d'.toList.Perm d.toList:=by
 have h3:=h.2.2
 have e1 : d'.extract 0 d.size = d':=by rw [← h.1]; simp
 have e2 : d.extract 0 d.size = d:=by simp
 rw [e1,e2] at h3
 exact h3
theorem sortedIn_list {lt : D → D → Bool} {d : Array D} (h : SortedIn lt 0 d.size d) : d.toList.Pairwise fun a b => lt b a = false:=by
 rw [List.pairwise_iff_getElem]
 intro i j hi hj hij
 have:=h i j (Nat.zero_le _) hij (by simpa using hj)
 rw [getElem!_pos d j (by simpa using hj),getElem!_pos d i (by simpa using hi)] at this
 simpa using this
end
open Go.RowKit
theorem swo_of {D : Type} [Inhabited D] {f : D → D → Int} (h : CmpOk f) : Sort.SWO (ltOf f):=by
 refine ⟨fun x => ?_,fun x y z a b => ?_,fun x y z a b => ?_⟩
 ·have:=h.swap x x
  unfold ltOf
  rw [decide_eq_false_iff_not]
  omega
 ·unfold ltOf at *
  rw [decide_eq_true_eq] at *
  have h1:=h.trans x y z (by omega) (by omega)
  have h2:=h.swap x z
  have h3:=h.swap x y
  have h4:=h.trans y z x (by omega)
  omega
 ·unfold ltOf at *
  rw [decide_eq_false_iff_not] at *
  have h1:=h.swap x y
  have h2:=h.swap y z
  have h3:=h.swap x z
  have h4:=h.trans z y x (by omega) (by omega)
  omega
instance : Inhabited IdD:=⟨⟨0,⟨#[]⟩⟩⟩
theorem fId_one (d : IdD) (m : Nat) : (fId d m).oneCell' = true:=by
 match m with
 | 0 => rfl
 | m + 1 => rfl
theorem sortFunc_Id (cf : IdD → IdD → Int) (hc : CmpOk cf) (g : Nat) (cb : Array Value) (hcall : ∀ args w,(callFunc g args).run Tryz.prog w = .ok (.enter g args) w)
  (hcmp : ∀ (W : World) (a b : IdD),Calls Tryz.prog g (#[.agg #[.int .i64 a.kind,.string a.text],.agg #[.int .i64 b.kind,.string b.text]] ++ cb) W fun e W' => e = .returned (.int .i64 (cf a b)) ∧ Gro W W')
  (B : Nat) (v : Value) (ds : List IdD) (w : World) (hO : Orow w B 55 2 fId v ds) (hl : ds.length ≤ 1000000) :
  Calls Tryz.prog 35 #[v,.func (.func g) #[] cb] w fun e w' =>
   e = .returned (.tuple #[]) ∧ ∃ ds' : List IdD,ds'.Perm ds ∧ (ds'.Pairwise fun a b => cf a b ≤ 0) ∧ Orow w' B 55 2 fId v ds' ∧ w.grownBy w' v.ownBlock:=by
 by_cases hne : ds = []
 ·subst hne
  obtain ⟨A,cap,hv,-⟩:=hO.slice
  subst hv
  refine (AnyF.slices_SortFunc_none Tryz.sortId A cap (.func (.func g) #[] cb) w).mono ?_
  rintro e w' ⟨rfl,rfl⟩
  exact ⟨rfl,[],List.Perm.refl _,List.Pairwise.nil,hO,⟨rfl,rfl,rfl,Nat.le_refl _,fun k hk _ => rfl⟩⟩
 ·obtain ⟨q,cap,rest,hv,hle,hB,hq,hm,hk,hr⟩:=hO.form hne
  subst hv
  refine (AnyQ.slices_SortFunc Tryz.sortId 2 (fun w => by kernel_rfl) (fun w => by kernel_rfl) (encK 2 fId) (fun x => encK_len x) ?_ cf (swo_of hc) g cb q 0 cap ds.toArray w hcall ?_ (holdsK_of_blk hk) hq (by simp; omega)).mono ?_
  ·intro x u hu
   unfold encK at hu
   obtain ⟨m,hm,rfl⟩:=List.mem_map.1 hu
   exact fId_one x m
  ·intro m os dk hs x y
   exact hcmp _ x y
  ·rintro e w' ⟨rfl,d',n,os,hp,hs,rfl⟩
   have hp2:=permIn_list hp
   have hs2:=sortedIn_list (d:=d') (by rw [hp.1]; exact hs)
   have hl2 : d'.toList.length = ds.length:=by simpa using hp2.length_eq
   refine ⟨rfl,d'.toList,by simpa using hp2,hs2.imp (fun {a b} h => ?_),?_,grown_sortWorldK _ _ _ _ _⟩
   ·unfold ltOf at h
    rw [decide_eq_false_iff_not] at h
    have:=hc.swap a b
    omega
   ·have:=kblk_sortWorldK (ds':=d'.toList) hk hl2 n os
    have h2:=Orow.of_blk this hB hm (by rw [hl2]; exact hle) (by rw [hl2]; exact hr)
    rw [hl2] at h2
    simpa using h2
end Go.Proofs.YtbidhpgjmcedaaaGreatDoor
