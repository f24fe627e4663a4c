/- Texts of this claim, put together: Id3, Bsf, SplitC, RuneP, MeasP. -/
import Derived.Test.YtfmnlpmgakgleaaGreatDoorGAO
import Derived.Test.YtfmnlpmgakgleaaGreatDoorGAG
import Derived.Test.YtfmnlpmgakgleaaGreatDoorGAC
import Derived.IntWalk
import Derived.Test.YtfmnlpmgakgleaaGreatDoorGAF
import Derived.Test.YtfmnlpmgakgleaaGreatDoorGAH
import Derived.Shelf.Unicode.DecodeSlow
import Derived.Test.YtfmnlpmgakgleaaGreatDoorGAK
import Derived.Test.YtfmnlpmgakgleaaGreatDoorGAJ
namespace Go.Proofs.YtfmnlpmgakgleaaGreatDoor
set_option linter.unusedVariables false
open Go.RowKit
def signsB:ByteArray:=⟨#[48,49,50,51,52,53,54,55,56,57,65,66,67,68,69,70,71,72,73,74,75,76,77,78,79,80,81,82,83,84,85,86,87,88,89,90]⟩
theorem signs_bd:∀ n:Fin 256,memC (UInt8.ofNat n.1) = true → 0 ≤ Lib.indexByte signs (UInt8.ofNat n.1) ∧ Lib.indexByte signs (UInt8.ofNat n.1) ≤ 35:=by decide +kernel
theorem sign_bd {c:UInt8} (h:memC c = true):0 ≤ Lib.indexByte signs c ∧ Lib.indexByte signs c ≤ 35:=by
 have:=signs_bd ⟨c.toNat,c.toNat_lt⟩
 simp only [UInt8.ofNat_toNat] at this
 exact this h
theorem idxSign_any (c:UInt8) (w:World):Calls Tryz.prog 189 #[.string signsB,.int .u8 (c.toNat:Int)] w fun e w' => e = .returned (.int .i64 (Lib.indexByte signs c)) ∧ w = w':=by
 refine (Tryz.strings_IndexByte signsB c.toNat w).mono ?_
 rintro e w' ⟨h1,h2⟩
 refine ⟨?_,h2.symm⟩
 rw [h1]
 have:((c.toNat:Int)).toNat.toUInt8 = c:=by simp
 rw [this];rfl
theorem signSum_succ (l:List UInt8) (n:Nat):signSum l (n + 1) = ((signSum l n).1 + (signSum l n).2 * Lib.indexByte signs (l.getD (l.length - 1 - n) 0) / 36 + (signSum l n).2 * Lib.indexByte signs (l.getD (l.length - 1 - n) 0) % 36,3 - (signSum l n).2):=rfl
theorem signSum_bd {l:List UInt8} (h:∀ c ∈ l,memC c = true):∀ n,n ≤ l.length → 0 ≤ (signSum l n).1 ∧ (signSum l n).1 ≤ 100 * n ∧ ((signSum l n).2 = 1 ∨ (signSum l n).2 = 2):=by
 intro n
 induction n with
 | zero => intro _;exact ⟨by simp [signSum],by simp [signSum],Or.inr rfl⟩
 | succ n ih =>
  intro hn
  obtain ⟨h1,h2,h3⟩:=ih (by omega)
  rw [signSum_succ]
  have hk:l.length - 1 - n < l.length:=by omega
  have hb:=sign_bd (h _ (List.getElem_mem hk))
  rw [List.getD_eq_getElem?_getD,List.getElem?_eq_getElem hk,Option.getD_some]
  generalize Lib.indexByte signs l[l.length - 1 - n] = x at *
  generalize (signSum l n).1 = a at *
  rcases h3 with h3 | h3 <;> rw [h3] <;> refine ⟨?_,?_,?_⟩ <;> simp only [] <;> omega
set_option maxHeartbeats 1000000 in
set_option maxRecDepth 100000 in
theorem checkSign_any (s:ByteArray) (w:World) (hs:s.size ≤ 1000) (hc:∀ c ∈ s.data.toList,memC c = true):Calls Tryz.prog 135 #[.string s] w fun e w' => e = .returned (.int .u8 (signF s)) ∧ w = w':=by
 have HC:=Lib.hid hc
 have hzl:s.data.toList.length = s.size:=by simp
 have HBD:=Lib.hid (signSum_bd hc)
 have HZL:=Lib.hid hzl
 clear hc hzl
 go_enter Tryz.func135,Tryz.ntmps135
 go_wp2_with fail
 go_loop [3,4,5,6] (fun a b t _ => ∃ (n:Nat) (su ti:Int),n ≤ s.size ∧ t = .int .i64 ((s.size:Int) - 1 - n) ∧ a = .int .i64 su ∧ b = .int .i64 ti ∧ Hid (signSum s.data.toList n = (su,ti))) (fun _ _ t _ => (intOf t + 1).toNat)
 case atStart => exact ⟨0,0,2,by omega,by simp,rfl,rfl,rfl⟩
 case round =>
  obtain ⟨n,su,ti,hn,rfl,rfl,rfl,hs2⟩:=hrel
  obtain ⟨b1,b2,b3⟩:=HBD.out n (by rw [HZL.out];exact hn)
  rw [hs2.out] at b1 b2 b3
  simp only at b1 b2 b3
  by_cases hlt:n < s.size
  ·obtain ⟨k,hke⟩:∃ k,k = s.size - 1 - n:=⟨_,rfl⟩
   have hk:k < s.size:=by omega
   have e1:(s.size:Int) - 1 - n = (k:Int):=by omega
   have hmem:s[k] ∈ s.data.toList:=by show s.data[k] ∈ _;simp
   have hb:=sign_bd (HC.out _ hmem)
   have HNX:Hid (signSum s.data.toList (n + 1) = (su + ti * Lib.indexByte signs s[k] / 36 + ti * Lib.indexByte signs s[k] % 36,3 - ti)):=by
    show _ = _
    rw [signSum_succ,hs2.out]
    have:s.data.toList.getD (s.data.toList.length - 1 - n) 0 = s[k]:=by
     rw [List.getD_eq_getElem?_getD,HZL.out,← hke,List.getElem?_eq_getElem (by rw [HZL.out];exact hk)];rfl
    rw [this]
   rw [e1]
   have HK:=Lib.hid hke
   clear e1 hmem hke
   go_wp2_with fail
   refine (idxSign_any s[k] _).mono ?_
   rintro e w' ⟨rfl,rfl⟩
   generalize Lib.indexByte signs s[k] = x at HNX hb
   have hx0:=hb.1
   have hx1:=hb.2
   clear hb
   rcases b3 with rfl | rfl
   all_goals
    go_wp2_with fail
    go_round
    case rel => exact ⟨n + 1,_,_,by omega,by have:=HK.out;congr 1;omega,by congr 1;omega,rfl,HNX⟩
    case measure => have:=HK.out;simp [intOf]
  ·have hie:n = s.size:=by omega
   subst hie
   have e1:(s.size:Int) - 1 - s.size = -1:=by omega
   have m0:0 ≤ su % 36:=by omega
   have m1:su % 36 < 36:=by omega
   obtain ⟨m,hm⟩:∃ m:Nat,(m:Int) = (36 - su % 36) % 36:=⟨((36 - su % 36) % 36).toNat,by omega⟩
   have hm2:m < 36:=by omega
   have HV:Hid (signF s = (signsB[m]'hm2).toNat):=by
    show _ = _
    unfold signF
    rw [hs2.out]
    simp only
    rw [← hm]
    have:signs.getD ((m:Int)).toNat 0 = signsB[m]'hm2:=by
     rw [List.getD_eq_getElem?_getD,Int.toNat_natCast,List.getElem?_eq_getElem (show m < signs.length from hm2)];rfl
    rw [this]
   rw [e1]
   have HM:=Lib.hid hm
   clear e1
   go_wp2_with fail
   go_ret
   have he:(-(su % 36) % 36).toNat = m:=by have:=HM.out;omega
   exact ⟨ret_int (by rw [HV.out];simp only [he];rfl),rfl⟩
theorem memberF_all {s:ByteArray} (h:memberF s = true):(4 ≤ s.size ∧ s.size ≤ 20) ∧ ∀ c ∈ s.data.toList,memC c = true:=by
 unfold memberF at h
 rw [Bool.and_eq_true,decide_eq_true_iff] at h
 exact ⟨h.1,List.all_eq_true.1 h.2⟩
set_option maxHeartbeats 2000000 in
set_option maxRecDepth 100000 in
theorem checkId_any (H:Frz) (hM:MLen H) (kind:Int) (s:ByteArray) (w:World) (hH:H.In w) (hs:s.size ≤ 1000000):Calls Tryz.prog 74 #[.agg #[.int .i64 kind,.string s]] w fun e w' => e = .returned (.int .i64 (idErr kind s)) ∧ Below w.heap.size w w':=by
 have HB:=Lib.hid (new1 (w:=w) (.cells #[.int .i64 kind,.string s] 39))
 have HIN:=Lib.hid (hH.alloc (.cells #[.int .i64 kind,.string s] 39))
 have z0:(w.alloc (.cells #[.int .i64 kind,.string s] 39)).cell? ⟨w.heap.size,0,none⟩ = some (.int .i64 kind):=newc 0 rfl
 have z1:(w.alloc (.cells #[.int .i64 kind,.string s] 39)).cell? ⟨w.heap.size,1,none⟩ = some (.string s):=newc 1 rfl
 have hV:idErr kind s = if kind = 1 then (if mailF s = true then 0 else 3) else if kind = 2 then (if phoneF s = true then 0 else 3)
  else if kind = 3 then (if memberF s = false then 3 else if signF (s.extract 0 (s.size - 1)) ≠ byteAt s (s.size - 1) then 15 else 0)
  else if kind = 4 then (if deviceF s = true then 0 else 3) else 4:=rfl
 by_cases h1:kind = 1
 ·subst h1
  have HV:=Lib.hid (hV.trans (if_pos rfl))
  clear hV
  go_enter Tryz.func74,Tryz.ntmps74
  go_wp2_with fail
  refine (isMail_any H hM s _ HIN.out hs).mono ?_
  rintro e w1 ⟨rfl,hb⟩
  have HB1:=Lib.hid (HB.out.trans (hb.mono HB.out.size))
  have y0:=(hb.cell (World.block_lt_of_cell? _ _ z0)).trans z0
  have y1:=(hb.cell (World.block_lt_of_cell? _ _ z1)).trans z1
  clear hb z0 z1
  generalize mailF s = q at HV
  cases q with
  | false =>
   have hv:=Lib.hid (HV.out.trans (if_neg (by simp)))
   go_wp2_with fail
   go_ret
   exact ⟨ret_int hv.out.symm,HB1.out⟩
  | true =>
   have hv:=Lib.hid (HV.out.trans (if_pos rfl))
   go_wp2_with fail
   go_quiet (fail)
   have HB2:=Lib.hid (below_drewN HB1.out nq)
   go_wp2_with fail
   go_ret
   exact ⟨ret_int hv.out.symm,HB2.out⟩
 ·have hV1:=hV.trans (if_neg h1)
  by_cases h2:kind = 2
  ·subst h2
   have HV:=Lib.hid (hV1.trans (if_pos rfl))
   clear hV hV1 h1
   go_enter Tryz.func74,Tryz.ntmps74
   go_wp2_with fail
   refine (isPhone_any s _ (by omega)).mono ?_
   rintro e w1 ⟨rfl,rfl⟩
   generalize phoneF s = q at HV
   cases q with
   | false =>
    have hv:=Lib.hid (HV.out.trans (if_neg (by simp)))
    go_wp2_with fail
    go_ret
    exact ⟨ret_int hv.out.symm,HB.out⟩
   | true =>
    have hv:=Lib.hid (HV.out.trans (if_pos rfl))
    go_wp2_with fail
    go_quiet (fail)
    have HB2:=Lib.hid (below_drewN HB.out nq)
    go_wp2_with fail
    go_ret
    exact ⟨ret_int hv.out.symm,HB2.out⟩
  ·have hV2:=hV1.trans (if_neg h2)
   by_cases h3:kind = 3
   ·subst h3
    have HV:=Lib.hid (hV2.trans (if_pos rfl))
    clear hV hV1 hV2 h1 h2
    go_enter Tryz.func74,Tryz.ntmps74
    go_wp2_with fail
    refine (isMember_any s _ (by omega)).mono ?_
    rintro e w1 ⟨rfl,rfl⟩
    have HMA:=Lib.hid (memberF_all (s:=s))
    generalize memberF s = q at HV HMA
    cases q with
    | false =>
     have hv:=Lib.hid (HV.out.trans (if_pos rfl))
     go_wp2_with fail
     go_ret
     exact ⟨ret_int hv.out.symm,HB.out⟩
    | true =>
     have HV1:=Lib.hid (HV.out.trans (if_neg (by simp)))
     obtain ⟨⟨m4,m20⟩,hmem⟩:=HMA.out rfl
     have hl1:s.size - 1 < s.size:=by omega
     have l2:(s.size:Int) - 1 = ((s.size - 1:Nat):Int):=by omega
     have HBA:=Lib.hid (byteAt_eq hl1)
     have hcs:Hid (∀ W,Calls Tryz.prog 135 #[.string (s.extract 0 (s.size - 1))] W fun e w' => e = .returned (.int .u8 (signF (s.extract 0 (s.size - 1)))) ∧ Below W.heap.size W w'):=fun W => same_below (checkSign_any (s.extract 0 (s.size - 1)) W (by rw [ByteArray.size_extract];omega) (fun c hc => hmem c (by
      rw [Lib.extract_data] at hc
      exact List.mem_of_mem_drop (List.mem_of_mem_take hc) )))
     clear HV HMA hmem
     go_upto_region 15 with (fail)
     generalize w.alloc (.cells #[.int .i64 3,.string s] 39) = W1 at *
     have K0:=lift_cell z0
     have K1:=lift_cell z1
     clear z0 z1
     (refine wp_region_det 14 48 (fun W => Below (W1).heap.size (W1) W) (by kernel_rfl) (by kernel_rfl) (by rfl) (Below.refl _ _).drew ?_;simp only [List.take_succ_cons,List.take_zero,List.drop_succ_cons,List.drop_zero])
     iterate 4 (refine detSeq_op rfl ?_ (fun W hW => ?_) ?_;rotate_left;(focus simp only [OpV];go_simp;first | exact rfl | exact ⟨rfl,hW⟩))
     iterate 4 (refine detSeq_yes (by kernel_rfl) ?_ (fun W hW => ?_) ?_;rotate_left;(focus simp only [OpV];go_simp;first | exact rfl | exact ⟨rfl,hW⟩))
     (refine detSeq_yes (by kernel_rfl) ?_ (fun W hW => ?_) ?_;rotate_left;focus (simp only [OpV];go_simp;refine (hcs.out W).mono ?_;rintro e w' ⟨rfl,hb⟩;refine ⟨_,rfl,?_,det_back hW hb⟩;exact rfl))
     iterate 5 (refine detSeq_yes (by kernel_rfl) ?_ (fun W hW => ?_) ?_;rotate_left;(focus simp only [OpV];go_simp;first | exact rfl | exact ⟨rfl,hW⟩))
     refine detSeq_nil (fun W3 hW3 => ?_)
     have HB3:=Lib.hid (HB.out.trans (hW3.mono HB.out.size))
     clear K0 K1 hW3
     generalize signF (s.extract 0 (s.size - 1)) = sg at HV1 ⊢
     rw [HBA.out] at HV1
     by_cases hs9:sg = (s[s.size - 1].toNat:Int)
     ·have hv:=Lib.hid (HV1.out.trans (if_neg (by simpa using hs9)))
      have k1:(sg != (s[s.size - 1].toNat:Int)) = false:=by simpa using hs9
      clear hs9
      go_wp2_with fail
      go_ret
      exact ⟨ret_int hv.out.symm,HB3.out⟩
     ·have hv:=Lib.hid (HV1.out.trans (if_pos hs9))
      have k1:(sg != (s[s.size - 1].toNat:Int)) = true:=by simpa using hs9
      clear hs9
      go_wp2_with fail
      go_ret
      exact ⟨ret_int hv.out.symm,HB3.out⟩
   ·have hV3:=hV2.trans (if_neg h3)
    by_cases h4:kind = 4
    ·subst h4
     have HV:=Lib.hid (hV3.trans (if_pos rfl))
     clear hV hV1 hV2 hV3 h1 h2 h3
     go_enter Tryz.func74,Tryz.ntmps74
     go_wp2_with fail
     refine (isDevice_any s _ (by omega)).mono ?_
     rintro e w1 ⟨rfl,rfl⟩
     generalize deviceF s = q at HV
     cases q with
     | false =>
      have hv:=Lib.hid (HV.out.trans (if_neg (by simp)))
      go_wp2_with fail
      go_ret
      exact ⟨ret_int hv.out.symm,HB.out⟩
     | true =>
      have hv:=Lib.hid (HV.out.trans (if_pos rfl))
      go_wp2_with fail
      go_quiet (fail)
      have HB2:=Lib.hid (below_drewN HB.out nq)
      go_wp2_with fail
      go_ret
      exact ⟨ret_int hv.out.symm,HB2.out⟩
    ·have hv:=Lib.hid (hV3.trans (if_neg h4))
     have k1:(kind == 1) = false:=by simpa using h1
     have k2:(kind == 2) = false:=by simpa using h2
     have k3:(kind == 3) = false:=by simpa using h3
     have k4:(kind == 4) = false:=by simpa using h4
     clear hV hV1 hV2 hV3 h1 h2 h3 h4
     go_enter Tryz.func74,Tryz.ntmps74
     go_wp2_with fail
     go_ret
     exact ⟨ret_int hv.out.symm,HB.out⟩
open Go.RowKit
def hasAt {D:Type} (c:D → Int) (ds:List D) (m:Nat):Bool:=match ds[m]? with | some d => c d == 0 | none => false
theorem hasAt_lt {D:Type} {c:D → Int} {ds:List D} {m:Nat} (h:m < ds.length):hasAt c ds m = (c ds[m] == 0):=by
 unfold hasAt;rw [List.getElem?_eq_getElem h]
theorem hasAt_ge {D:Type} {c:D → Int} {ds:List D} {m:Nat} (h:ds.length ≤ m):hasAt c ds m = false:=by
 unfold hasAt;rw [List.getElem?_eq_none h]
open Go.RowKit
theorem splitC_at {D:Type} (c:D → Int) (ds:List D) (hs:∀ i j (hi:i < ds.length) (hj:j < ds.length),i < j → 0 ≤ c ds[i] → 0 < c ds[j]) :
  ∃ m,m = (ds.takeWhile fun d => decide (c d < 0)).length ∧ m ≤ ds.length ∧ (∀ i (h:i < ds.length),i < m → c ds[i] < 0) ∧ (∀ i (h:i < ds.length),m ≤ i → 0 ≤ c ds[i]) ∧ (∀ p:D → Bool,(∀ d,p d = true ↔ c d = 0) → ds.find? p = if hasAt c ds m = true then ds[m]? else none):=by
 refine ⟨(ds.takeWhile fun d => decide (c d < 0)).length,rfl,?_,?_,?_,?_⟩
 ·exact (List.takeWhile_sublist _).length_le
 ·intro i h hi
  have e:ds = (ds.takeWhile fun d => decide (c d < 0)) ++ (ds.dropWhile fun d => decide (c d < 0)):=List.takeWhile_append_dropWhile.symm
  have h1:ds[i]? = (ds.takeWhile fun d => decide (c d < 0))[i]?:=by
   conv => lhs;rw [e]
   rw [List.getElem?_append_left hi]
  rw [List.getElem?_eq_getElem h,List.getElem?_eq_getElem hi] at h1
  injection h1 with h1
  have h2:=List.all_takeWhile (p:=fun d => decide (c d < 0)) (l:=ds)
  have h3:=List.all_eq_true.1 h2 _ (List.getElem_mem hi)
  rw [← h1] at h3
  simpa using h3
 ·intro i h hi
  have e:ds = (ds.takeWhile fun d => decide (c d < 0)) ++ (ds.dropWhile fun d => decide (c d < 0)):=List.takeWhile_append_dropWhile.symm
  generalize hk:(ds.takeWhile fun d => decide (c d < 0)).length = k at hi
  have hkl:k < ds.length:=by omega
  have hd:(ds.dropWhile fun d => decide (c d < 0)).head? = some ds[k]:=by
   have:ds[k]? = (ds.dropWhile fun d => decide (c d < 0))[0]?:=by
    conv => lhs;rw [e]
    rw [List.getElem?_append_right (by omega),hk,Nat.sub_self]
   rw [List.head?_eq_getElem?,← this,List.getElem?_eq_getElem hkl]
  have h0:0 ≤ c ds[k]:=by
   have:=List.head?_dropWhile_not (fun d => decide (c d < 0)) ds
   rw [hd] at this
   simpa using this
  rcases Nat.lt_or_eq_of_le hi with hlt | heq
  ·exact Int.le_of_lt (hs k i hkl h hlt h0)
  ·subst heq;exact h0
 ·intro p hp
  have e:ds = (ds.takeWhile fun d => decide (c d < 0)) ++ (ds.dropWhile fun d => decide (c d < 0)):=List.takeWhile_append_dropWhile.symm
  generalize hk:(ds.takeWhile fun d => decide (c d < 0)).length = k
  have hget:ds[k]? = (ds.dropWhile fun d => decide (c d < 0))[0]?:=by
   conv => lhs;rw [e]
   rw [List.getElem?_append_right (by omega),hk,Nat.sub_self]
  have hfT:(ds.takeWhile fun d => decide (c d < 0)).find? p = none:=by
   rw [List.find?_eq_none]
   intro d hd
   have:=List.all_eq_true.1 (List.all_takeWhile (p:=fun d => decide (c d < 0)) (l:=ds)) d hd
   have h2:c d < 0:=by simpa using this
   rw [hp];omega
  have hf:ds.find? p = (ds.dropWhile fun d => decide (c d < 0)).find? p:=by
   conv => lhs;rw [e]
   rw [List.find?_append,hfT];rfl
  rw [hf]
  unfold hasAt
  rw [hget]
  have hmem:∀ y,(ds.dropWhile fun d => decide (c d < 0))[0]? = some y → ∀ i (h:i < ds.length),k < i → c y = 0 → 0 < c ds[i]:=by
   intro y hy i h hki hcy
   have hkl:k < ds.length:=by omega
   rw [← hget,List.getElem?_eq_getElem hkl] at hy
   injection hy with hy
   exact hs k i hkl h hki (by rw [hy,hcy];exact Int.le_refl 0)
  have hge:∀ y,(ds.dropWhile fun d => decide (c d < 0))[0]? = some y → 0 ≤ c y:=by
   intro y hy
   have:=List.head?_dropWhile_not (fun d => decide (c d < 0)) ds
   rw [List.head?_eq_getElem?,hy] at this
   simpa using this
  have hall:∀ y,(ds.dropWhile fun d => decide (c d < 0))[0]? = some y → ∀ d ∈ (ds.dropWhile fun d => decide (c d < 0)).tail,0 < c d:=by
   intro y hy d hd
   obtain ⟨i,hi,rfl⟩:=List.mem_iff_getElem.1 hd
   have hlen:(ds.dropWhile fun d => decide (c d < 0)).length = ds.length - k:=by
    have:=congrArg List.length e
    rw [List.length_append,hk] at this;omega
   have hi2:i < ds.length - k - 1:=by simpa [hlen] using hi
   have hkl:k < ds.length:=by omega
   have e3:(ds.dropWhile fun d => decide (c d < 0)).tail[i] = ds[k + 1 + i]:=by
    have:some ((ds.dropWhile fun d => decide (c d < 0)).tail[i]) = some (ds[k + 1 + i]):=by
     rw [← List.getElem?_eq_getElem,← List.getElem?_eq_getElem]
     conv => rhs;rw [e]
     rw [List.getElem?_append_right (by omega),hk,List.getElem?_tail]
     congr 1;omega
    injection this
   rw [e3]
   rw [← hget,List.getElem?_eq_getElem hkl] at hy
   injection hy with hy
   exact hs k (k + 1 + i) hkl (by omega) (by omega) (by rw [hy];exact hge y (by rw [← hget,List.getElem?_eq_getElem hkl,hy]))
  cases hq:ds.dropWhile fun d => decide (c d < 0) with
  | nil => simp
  | cons y r =>
   rw [hq] at hall hge
   simp only [List.getElem?_cons_zero]
   by_cases hy:c y = 0
   ·have:p y = true:=(hp y).2 hy
    simp [this,hy]
   ·have hpy:p y = false:=by
     cases hpy:p y with
     | false => rfl
     | true => exact absurd ((hp y).1 hpy) hy
    have hr:r.find? p = none:=by
     rw [List.find?_eq_none]
     intro d hd
     have:=hall y rfl d (by simpa using hd)
     rw [hp];omega
    simp [hpy,hr,hy]
theorem hasC_some {D:Type} {c:D → Int} {ds:List D} {m:Nat} (h:hasAt c ds m = true):∃ hl:m < ds.length,ds[m]? = some ds[m]:=by
 unfold hasAt at h
 cases e:ds[m]? with
 | none => rw [e] at h;cases h
 | some d => obtain ⟨hl,e2⟩:=List.getElem?_eq_some_iff.1 e;exact ⟨hl,by rw [e2]⟩
def FdSorted (fs:List FD):Prop:=fs.Pairwise fun a b => cmpS a.name b.name < 0
theorem fd_steps {fs:List FD} (h:FdSorted fs) (name:ByteArray):∀ i j (hi:i < fs.length) (hj:j < fs.length),i < j → 0 ≤ cmpS fs[i].name name → 0 < cmpS fs[j].name name:=by
 intro i j hi hj hij h0
 have h1:=List.pairwise_iff_getElem.1 h i j hi hj hij
 have h2:=cmpS_swap fs[i].name name
 have h3:=cmpS_swap name fs[j].name
 have:cmpS name fs[i].name ≤ 0:=by omega
 have h4:=cmpS_le_trans this h1
 omega
def vO (o:Option VD):Value:=match o with | none => .agg #[.int .i64 0,.string ⟨#[]⟩,.int .i64 0] | some v => .agg #[.int .i64 v.kind,.string v.text,.int .i64 v.num]
def runeOf (s:ByteArray):Int:=if (Lib.decodeGo s).1 = 65533 ∧ (Lib.decodeGo s).2 = 1 then -1 - ((s.data.toList.headD 0).toNat:Int) else ((Lib.decodeGo s).1:Int)
def restOf (s:ByteArray):ByteArray:=s.extract (Lib.decodeGo s).2 s.size
def ptF:Nat → ByteArray → List Int
 | 0,_ => []
 | n + 1,s => if s.size = 0 then [] else runeOf s :: ptF n (restOf s)
def ptS (s:ByteArray):List Int:=ptF s.size s
theorem decN_bound (n b0 b1 b2 b3:Nat) (hn:1 ≤ n) (h0:b0 < 256):1 ≤ (Lib.decodeN n b0 b1 b2 b3).2 ∧ (Lib.decodeN n b0 b1 b2 b3).2 ≤ n ∧ (Lib.decodeN n b0 b1 b2 b3).1 ≤ 1114111:=by
 unfold Lib.decodeN
 repeat' split
 all_goals (simp only;omega)
theorem dec_bound {s:ByteArray} (h:0 < s.size):1 ≤ (Lib.decodeGo s).2 ∧ (Lib.decodeGo s).2 ≤ s.size ∧ (Lib.decodeGo s).1 ≤ 1114111:=by
 unfold Lib.decodeGo
 rw [if_neg (by omega),Lib.decode_at]
 exact decN_bound (s.size - 0) _ _ _ _ (by omega) (UInt8.toNat_lt _)
theorem restOf_size {s:ByteArray} (h:0 < s.size):(restOf s).size < s.size ∧ (restOf s).size = s.size - (Lib.decodeGo s).2:=by
 have:=dec_bound h
 unfold restOf
 rw [ByteArray.size_extract]
 omega
theorem ptF_more:∀ (n m:Nat) (s:ByteArray),s.size ≤ n → s.size ≤ m → ptF n s = ptF m s
 | 0,0,s,_,_ => rfl
 | 0,m + 1,s,h,_ => by unfold ptF;rw [if_pos (by omega)]
 | n + 1,0,s,_,h => by unfold ptF;rw [if_pos (by omega)]
 | n + 1,m + 1,s,h1,h2 => by
  unfold ptF
  by_cases h:s.size = 0
  ·rw [if_pos h,if_pos h]
  ·rw [if_neg h,if_neg h]
   have:=(restOf_size (s:=s) (by omega)).1
   rw [ptF_more n m (restOf s) (by omega) (by omega)]
theorem ptS_nil {s:ByteArray} (h:s.size = 0):ptS s = []:=by
 unfold ptS
 rw [h]
 rfl
theorem ptS_step {s:ByteArray} (h:0 < s.size):ptS s = runeOf s :: ptS (restOf s):=by
 obtain ⟨n,hn⟩:∃ n,s.size = n + 1:=⟨s.size - 1,by omega⟩
 have h2:=(restOf_size h).1
 unfold ptS
 rw [hn]
 conv => lhs;unfold ptF
 rw [if_neg (by omega),ptF_more n (restOf s).size (restOf s) (by omega) (Nat.le_refl _)]
theorem ptF_len:∀ (n:Nat) (s:ByteArray),(ptF n s).length ≤ n
 | 0,s => by simp [ptF]
 | n + 1,s => by
  unfold ptF
  split
  ·simp
  ·have:=ptF_len n (restOf s)
   simp only [List.length_cons]
   omega
theorem ptS_len (s:ByteArray):(ptS s).length ≤ s.size:=ptF_len _ s
theorem runeOf_bound {s:ByteArray} (h:0 < s.size):-300 ≤ runeOf s ∧ runeOf s ≤ 1114111:=by
 have:=dec_bound h
 have:=(s.data.toList.headD 0).toNat_lt
 unfold runeOf
 split <;> omega
open Go.RowKit
def lowF (m:MsD):Int:=if m.how = 1 then 0 else 1
def highF (m:MsD):Int:=if m.how = 1 then 0 else 20
structure RightM (m:MsD):Prop where
 name:isKey m.name = true
 how:1 ≤ m.how ∧ m.how ≤ 3
 far:lowF m ≤ m.far ∧ m.far ≤ highF m
 pts:-1000 ≤ m.pts ∧ m.pts ≤ 1000
theorem fds_right {ok:ByteArray → Bool} {fs:List FD} (h:fdsE ok fs = 0):fs.length ≤ 30 ∧ FdSorted fs ∧ ∀ f ∈ fs,isKey f.name = true ∧ valErr ok f.v = 0:=by
 unfold fdsE at h
 split at h
 ·cases h
 have h0:=fstErr_zero.1 h
 have hE:∀ i (hi:i < fs.length),isKey fs[i].name = true ∧ valErr ok fs[i].v = 0 ∧ ¬ (0 < i ∧ 0 ≤ cmpS (fs.getD (i - 1) fs[i]).name fs[i].name):=fun i hi => by
  have:=h0 i hi
  rw [fd1_at hi] at this
  split at this
  ·cases this
  rename_i h1
  split at this
  ·rename_i h2;exact absurd this h2
  rename_i h2
  split at this
  ·cases this
  rename_i h3
  exact ⟨by simpa using h1,Decidable.not_not.1 h2,h3⟩
 refine ⟨by omega,chainP (R:=fun a b:FD => cmpS a.name b.name < 0) (fun a b c h1 h2 => cmpS_trans h1 h2) fun i hi => ?_,fun f hf => ?_⟩
 ·have h4:=(hE (i + 1) hi).2.2
  have h5:fs.getD (i + 1 - 1) fs[i + 1] = fs[i]:=by
   rw [Nat.add_sub_cancel,List.getD_eq_getElem?_getD,List.getElem?_eq_getElem (by omega),Option.getD_some]
  rw [h5] at h4
  have:¬ 0 ≤ cmpS fs[i].name fs[i + 1].name:=fun c => h4 ⟨by omega,c⟩
  omega
 ·obtain ⟨i,hi,rfl⟩:=List.getElem_of_mem hf
  exact ⟨(hE i hi).1,(hE i hi).2.1⟩
end Go.Proofs.YtfmnlpmgakgleaaGreatDoor
