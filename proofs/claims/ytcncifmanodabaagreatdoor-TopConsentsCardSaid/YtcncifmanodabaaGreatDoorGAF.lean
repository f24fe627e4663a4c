/- Texts of this claim, put together: ConsC2, ConsC3, ConsA. -/
import Derived.Test.YtcncifmanodabaaGreatDoorGAE
import Derived.Test.YtcncifmanodabaaGreatDoorGAB
namespace Go.Proofs.YtcncifmanodabaaGreatDoor
set_option linter.unusedVariables false
open Go.RowKit
set_option maxHeartbeats 1000000 in
set_option maxRecDepth 100000 in
theorem saidOrd_raw (a0 b0:Int) (a1 b1:Int) (a2 b2:Int) (a3 b3:ByteArray) (a4 b4:ByteArray) (a5 b5:ByteArray) (a6 b6:Int) (a7 b7:Int) (w:World):Calls Tryz.prog 95 #[.agg #[.int .i64 a0,.int .i64 a1,.int .i64 a2,.string a3,.string a4,.string a5,.int .i64 a6,.int .i64 a7],.agg #[.int .i64 b0,.int .i64 b1,.int .i64 b2,.string b3,.string b4,.string b5,.int .i64 b6,.int .i64 b7]] w fun e w' => e = .returned (.int .i64 (orL [cmpI a1 b1,cmpI a0 b0])) ∧ Below w.heap.size w w':=by
 have hb:=Lib.hid (new2 (w:=w) (.cells #[.int .i64 a0,.int .i64 a1,.int .i64 a2,.string a3,.string a4,.string a5,.int .i64 a6,.int .i64 a7] 53) (.cells #[.int .i64 b0,.int .i64 b1,.int .i64 b2,.string b3,.string b4,.string b5,.int .i64 b6,.int .i64 b7] 53))
 have z0:((w.alloc (.cells #[.int .i64 a0,.int .i64 a1,.int .i64 a2,.string a3,.string a4,.string a5,.int .i64 a6,.int .i64 a7] 53)).alloc (.cells #[.int .i64 b0,.int .i64 b1,.int .i64 b2,.string b3,.string b4,.string b5,.int .i64 b6,.int .i64 b7] 53)).cell? ⟨w.heap.size,0,none⟩ = some (.int .i64 a0):=oldc (newc 0 rfl)
 have y0:((w.alloc (.cells #[.int .i64 a0,.int .i64 a1,.int .i64 a2,.string a3,.string a4,.string a5,.int .i64 a6,.int .i64 a7] 53)).alloc (.cells #[.int .i64 b0,.int .i64 b1,.int .i64 b2,.string b3,.string b4,.string b5,.int .i64 b6,.int .i64 b7] 53)).cell? ⟨w.heap.size + 1,0,none⟩ = some (.int .i64 b0):=by rw [← sizeA w (.cells #[.int .i64 a0,.int .i64 a1,.int .i64 a2,.string a3,.string a4,.string a5,.int .i64 a6,.int .i64 a7] 53)];exact newc 0 rfl
 have z1:((w.alloc (.cells #[.int .i64 a0,.int .i64 a1,.int .i64 a2,.string a3,.string a4,.string a5,.int .i64 a6,.int .i64 a7] 53)).alloc (.cells #[.int .i64 b0,.int .i64 b1,.int .i64 b2,.string b3,.string b4,.string b5,.int .i64 b6,.int .i64 b7] 53)).cell? ⟨w.heap.size,1,none⟩ = some (.int .i64 a1):=oldc (newc 1 rfl)
 have y1:((w.alloc (.cells #[.int .i64 a0,.int .i64 a1,.int .i64 a2,.string a3,.string a4,.string a5,.int .i64 a6,.int .i64 a7] 53)).alloc (.cells #[.int .i64 b0,.int .i64 b1,.int .i64 b2,.string b3,.string b4,.string b5,.int .i64 b6,.int .i64 b7] 53)).cell? ⟨w.heap.size + 1,1,none⟩ = some (.int .i64 b1):=by rw [← sizeA w (.cells #[.int .i64 a0,.int .i64 a1,.int .i64 a2,.string a3,.string a4,.string a5,.int .i64 a6,.int .i64 a7] 53)];exact newc 1 rfl
 go_enter Tryz.func95,Tryz.ntmps95
 go_wp2_with fail
 generalize (w.alloc (.cells #[.int .i64 a0,.int .i64 a1,.int .i64 a2,.string a3,.string a4,.string a5,.int .i64 a6,.int .i64 a7] 53)).alloc (.cells #[.int .i64 b0,.int .i64 b1,.int .i64 b2,.string b3,.string b4,.string b5,.int .i64 b6,.int .i64 b7] 53) = W2 at *
 have K0:=lift_cell z0
 have J0:=lift_cell y0
 have K1:=lift_cell z1
 have J1:=lift_cell y1
 clear z0 y0 z1 y1
 (refine wp_region_det 10 17 (fun W => Below (W2).heap.size (W2) W) (by kernel_rfl) (by kernel_rfl) (by rfl) (Below.refl _ _).drew ?_;simp only [List.take_succ_cons,List.take_zero,List.drop_succ_cons,List.drop_zero])
 iterate 4 (refine detSeq_op rfl ?_ (fun W hW => ?_) ?_;rotate_left;(focus simp only [OpV];go_simp;first | exact rfl | exact ⟨rfl,hW⟩))
 (refine detSeq_op rfl ?_ (fun W hW => ?_) ?_;rotate_left;focus (simp only [OpV];go_simp;refine (cmpInt_b a1 b1 W).mono ?_;rintro e w' ⟨rfl,hb⟩;refine ⟨_,rfl,?_,det_back hW hb⟩;exact rfl))
 iterate 4 (refine detSeq_op rfl ?_ (fun W hW => ?_) ?_;rotate_left;(focus simp only [OpV];go_simp;first | exact rfl | exact ⟨rfl,hW⟩))
 (refine detSeq_op rfl ?_ (fun W hW => ?_) ?_;rotate_left;focus (simp only [OpV];go_simp;refine (cmpInt_b a0 b0 W).mono ?_;rintro e w' ⟨rfl,hb⟩;refine ⟨_,rfl,?_,det_back hW hb⟩;exact rfl))
 refine detSeq_nil (fun W3 hW3 => ?_)
 have HB3:=Lib.hid (hb.out.trans (hW3.mono hb.out.size))
 have HIN:Hid (Ints (W3.alloc (.cells #[.int .i64 (cmpI a1 b1),.int .i64 (cmpI a0 b0)] 3)) (some ⟨W3.heap.size,0,none⟩) [cmpI a1 b1,cmpI a0 b0]):=Ints.of_row (heap_at rfl) rfl
 clear K0 J0 K1 J1 hW3
 generalize hu1:cmpI a1 b1 = u1 at HIN
 have HU1:=Lib.hid hu1
 clear hu1
 generalize hu0:cmpI a0 b0 = u0 at HIN
 have HU0:=Lib.hid hu0
 clear hu0
 go_wp2_with fail
 refine (orL_any _ _ [u1,u0] _ HIN.out (by simp)).mono ?_
 rintro e w' ⟨rfl,rfl⟩
 generalize hq:orL [u1,u0] = q
 have HQ:=Lib.hid hq
 clear hq
 have HB4:=Lib.hid (HB3.out.alloc HB3.out.size (.cells #[.int .i64 u1,.int .i64 u0] 3))
 go_wp2_with fail
 go_ret
 exact ⟨ret_int (by rw [HU1.out,HU0.out];exact HQ.out.symm),HB4.out⟩
theorem saidOrd_any (a b:StD) (w:World):Calls Tryz.prog 95 #[.agg #[fSt a 0,fSt a 1,fSt a 2,fSt a 3,fSt a 4,fSt a 5,fSt a 6,fSt a 7],.agg #[fSt b 0,fSt b 1,fSt b 2,fSt b 3,fSt b 4,fSt b 5,fSt b 6,fSt b 7]] w fun e w' => e = .returned (.int .i64 (stCmp a b)) ∧ Below w.heap.size w w' :=
 (saidOrd_raw a.no b.no a.at_ b.at_ a.kind b.kind a.text b.text a.purp b.purp a.region b.region a.ch b.ch a.what b.what w).mono fun e w' ⟨h1,h2⟩ => ⟨by rw [h1,orL_two];rfl,h2⟩
set_option maxHeartbeats 1000000 in
theorem upToC_raw (a0 a1 a2:Int) (a3 a4 a5:ByteArray) (a6 a7 n:Int) (w:World):Calls Tryz.prog 99 #[.agg #[.int .i64 a0,.int .i64 a1,.int .i64 a2,.string a3,.string a4,.string a5,.int .i64 a6,.int .i64 a7],.int .i64 n] w fun e w' => e = .returned (.int .i64 (cmpI a1 n)) ∧ Below w.heap.size w w':=by
 have hb:=Lib.hid (new1 (w:=w) (.cells #[.int .i64 a0,.int .i64 a1,.int .i64 a2,.string a3,.string a4,.string a5,.int .i64 a6,.int .i64 a7] 53))
 go_enter Tryz.func99,Tryz.ntmps99
 go_wp2_with fail
 refine (cmpInt_any _ _ _).mono ?_
 rintro e w' ⟨rfl,rfl⟩
 generalize hc:cmpI a1 n = c
 have HC:=Lib.hid hc
 clear hc
 go_wp2_with fail
 go_ret
 exact ⟨ret_int HC.out.symm,hb.out⟩
theorem upToC_any (a:StD) (n:Int) (w:World):Calls Tryz.prog 99 #[.agg #[fSt a 0,fSt a 1,fSt a 2,fSt a 3,fSt a 4,fSt a 5,fSt a 6,fSt a 7],.int .i64 n] w fun e w' => e = .returned (.int .i64 (cmpI a.at_ n)) ∧ Below w.heap.size w w':=upToC_raw _ _ _ _ _ _ _ _ _ _
structure PolIn (H:Frz) (A:Option Addr) (ps:List PurD):Prop where
 row:Rw H A 2 fPu ps
 terms:∀ p ∈ ps,Rw H p.adr 5 fTe p.terms
 size:∀ p ∈ ps,p.name.size ≤ 1000000 ∧ p.terms.length ≤ 1000 ∧ p.terms.length ≤ p.cap ∧ ∀ t ∈ p.terms,t.region.size ≤ 1000000
theorem PolIn.le {H H':Frz} {A:Option Addr} {ps:List PurD} (h:PolIn H A ps) (hl:H.Le H'):PolIn H' A ps:=⟨h.row.le hl,fun p hp => (h.terms p hp).le hl,h.size⟩
def PurSorted (ps:List PurD):Prop:=ps.Pairwise fun a b => cmpS a.name b.name < 0
def TerSorted (ts:List TermD):Prop:=ts.Pairwise fun a b => teCmp a b < 0
theorem split_at {D:Type} (c:D → Int) (ds:List D) (hs:∀ i j (hi:i < ds.length) (hj:j < ds.length),i < j → 0 ≤ c ds[i] → 0 < c ds[j]) :
  ∃ m,m = (ds.takeWhile fun d => decide (c d < 0)).length ∧ m ≤ ds.length ∧ (∀ i (h:i < ds.length),i < m → c ds[i] < 0) ∧ (∀ i (h:i < ds.length),m ≤ i → 0 ≤ c ds[i]) ∧ (∀ p:D → Bool,(∀ d,p d = true ↔ c d = 0) → ds.find? p = if hasAt c ds m = true then ds[m]? else none):=by
 refine ⟨(ds.takeWhile fun d => decide (c d < 0)).length,rfl,?_,?_,?_,?_⟩
 ·exact (List.takeWhile_sublist _).length_le
 ·intro i h hi
  have e:ds = (ds.takeWhile fun d => decide (c d < 0)) ++ (ds.dropWhile fun d => decide (c d < 0)):=List.takeWhile_append_dropWhile.symm
  have h1:ds[i]? = (ds.takeWhile fun d => decide (c d < 0))[i]?:=by
   conv => lhs;rw [e]
   rw [List.getElem?_append_left hi]
  rw [List.getElem?_eq_getElem h,List.getElem?_eq_getElem hi] at h1
  injection h1 with h1
  have h2:=List.all_takeWhile (p:=fun d => decide (c d < 0)) (l:=ds)
  have h3:=List.all_eq_true.1 h2 _ (List.getElem_mem hi)
  rw [← h1] at h3
  simpa using h3
 ·intro i h hi
  have e:ds = (ds.takeWhile fun d => decide (c d < 0)) ++ (ds.dropWhile fun d => decide (c d < 0)):=List.takeWhile_append_dropWhile.symm
  generalize hk:(ds.takeWhile fun d => decide (c d < 0)).length = k at hi
  have hkl:k < ds.length:=by omega
  have hd:(ds.dropWhile fun d => decide (c d < 0)).head? = some ds[k]:=by
   have:ds[k]? = (ds.dropWhile fun d => decide (c d < 0))[0]?:=by
    conv => lhs;rw [e]
    rw [List.getElem?_append_right (by omega),hk,Nat.sub_self]
   rw [List.head?_eq_getElem?,← this,List.getElem?_eq_getElem hkl]
  have h0:0 ≤ c ds[k]:=by
   have:=List.head?_dropWhile_not (fun d => decide (c d < 0)) ds
   rw [hd] at this
   simpa using this
  rcases Nat.lt_or_eq_of_le hi with hlt | heq
  ·exact Int.le_of_lt (hs k i hkl h hlt h0)
  ·subst heq;exact h0
 ·intro p hp
  have e:ds = (ds.takeWhile fun d => decide (c d < 0)) ++ (ds.dropWhile fun d => decide (c d < 0)):=List.takeWhile_append_dropWhile.symm
  generalize hk:(ds.takeWhile fun d => decide (c d < 0)).length = k
  have hget:ds[k]? = (ds.dropWhile fun d => decide (c d < 0))[0]?:=by
   conv => lhs;rw [e]
   rw [List.getElem?_append_right (by omega),hk,Nat.sub_self]
  have hfT:(ds.takeWhile fun d => decide (c d < 0)).find? p = none:=by
   rw [List.find?_eq_none]
   intro d hd
   have:=List.all_eq_true.1 (List.all_takeWhile (p:=fun d => decide (c d < 0)) (l:=ds)) d hd
   have h2:c d < 0:=by simpa using this
   rw [hp];omega
  have hf:ds.find? p = (ds.dropWhile fun d => decide (c d < 0)).find? p:=by
   conv => lhs;rw [e]
   rw [List.find?_append,hfT];rfl
  rw [hf]
  unfold hasAt
  rw [hget]
  have hmem:∀ y,(ds.dropWhile fun d => decide (c d < 0))[0]? = some y → ∀ i (h:i < ds.length),k < i → c y = 0 → 0 < c ds[i]:=by
   intro y hy i h hki hcy
   have hkl:k < ds.length:=by omega
   rw [← hget,List.getElem?_eq_getElem hkl] at hy
   injection hy with hy
   exact hs k i hkl h hki (by rw [hy,hcy];exact Int.le_refl 0)
  have hge:∀ y,(ds.dropWhile fun d => decide (c d < 0))[0]? = some y → 0 ≤ c y:=by
   intro y hy
   have:=List.head?_dropWhile_not (fun d => decide (c d < 0)) ds
   rw [List.head?_eq_getElem?,hy] at this
   simpa using this
  have hall:∀ y,(ds.dropWhile fun d => decide (c d < 0))[0]? = some y → ∀ d ∈ (ds.dropWhile fun d => decide (c d < 0)).tail,0 < c d:=by
   intro y hy d hd
   obtain ⟨i,hi,rfl⟩:=List.mem_iff_getElem.1 hd
   have hlen:(ds.dropWhile fun d => decide (c d < 0)).length = ds.length - k:=by
    have:=congrArg List.length e
    rw [List.length_append,hk] at this;omega
   have hi2:i < ds.length - k - 1:=by simpa [hlen] using hi
   have hkl:k < ds.length:=by omega
   have e3:(ds.dropWhile fun d => decide (c d < 0)).tail[i] = ds[k + 1 + i]:=by
    have:some ((ds.dropWhile fun d => decide (c d < 0)).tail[i]) = some (ds[k + 1 + i]):=by
     rw [← List.getElem?_eq_getElem,← List.getElem?_eq_getElem]
     conv => rhs;rw [e]
     rw [List.getElem?_append_right (by omega),hk,List.getElem?_tail]
     congr 1;omega
    injection this
   rw [e3]
   rw [← hget,List.getElem?_eq_getElem hkl] at hy
   injection hy with hy
   exact hs k (k + 1 + i) hkl (by omega) (by omega) (by rw [hy];exact hge y (by rw [← hget,List.getElem?_eq_getElem hkl,hy]))
  cases hq:ds.dropWhile fun d => decide (c d < 0) with
  | nil => simp
  | cons y r =>
   rw [hq] at hall hge
   simp only [List.getElem?_cons_zero]
   by_cases hy:c y = 0
   ·have:p y = true:=(hp y).2 hy
    simp [this,hy]
   ·have hpy:p y = false:=by
     cases hpy:p y with
     | false => rfl
     | true => exact absurd ((hp y).1 hpy) hy
    have hr:r.find? p = none:=by
     rw [List.find?_eq_none]
     intro d hd
     have:=hall y rfl d (by simpa using hd)
     rw [hp];omega
    simp [hpy,hr,hy]
open Go.RowKit
def purV (o:Option PurD):Value:=match o with | none => .agg #[.string ⟨#[]⟩,.slice none 0 0] | some p => .agg #[.string p.name,.slice p.adr p.terms.length p.cap]
def terV (o:Option TermD):Value:=match o with | none => .agg #[.string ⟨#[]⟩,.int .i64 0,.bool false,.int .i64 0,.int .i64 0] | some t => .agg #[.string t.region,.int .i64 t.ch,.bool t.free,.int .i64 t.days,.int .i64 t.wait]
theorem pur_steps {ps:List PurD} (h:PurSorted ps) (name:ByteArray):∀ i j (hi:i < ps.length) (hj:j < ps.length),i < j → 0 ≤ cmpS ps[i].name name → 0 < cmpS ps[j].name name:=by
 intro i j hi hj hij h0
 have h1:=List.pairwise_iff_getElem.1 h i j hi hj hij
 have h2:=cmpS_swap ps[i].name name
 have h3:=cmpS_swap name ps[j].name
 have:cmpS name ps[i].name ≤ 0:=by omega
 have h4:=cmpS_le_trans this h1
 omega
theorem teCmp_lt_iff {a b:TermD}:teCmp a b < 0 ↔ cmpS a.region b.region < 0 ∨ (a.region = b.region ∧ a.ch < b.ch):=by
 unfold teCmp orI
 by_cases h:cmpS a.region b.region = 0
 ·rw [if_pos h,cmpI_lt]
  constructor
  ·intro h2;exact Or.inr ⟨cmpS_zero h,h2⟩
  ·rintro (h2 | h2)
   ·omega
   ·exact h2.2
 ·rw [if_neg h]
  constructor
  ·intro h2;exact Or.inl h2
  ·rintro (h2 | h2)
   ·exact h2
   ·rw [h2.1,cmpS_self] at h;exact absurd rfl h
theorem teCmp_zero {a b:TermD}:teCmp a b = 0 ↔ a.region = b.region ∧ a.ch = b.ch:=by
 unfold teCmp orI
 by_cases h:cmpS a.region b.region = 0
 ·rw [if_pos h,cmpI_zero]
  exact ⟨fun h2 => ⟨cmpS_zero h,h2⟩,fun h2 => h2.2⟩
 ·rw [if_neg h]
  refine ⟨fun h2 => absurd h2 h,fun h2 => ?_⟩
  rw [h2.1,cmpS_self] at h;exact absurd rfl h
theorem teCmp_swap (a b:TermD):teCmp b a = - teCmp a b:=by
 unfold teCmp orI
 have h1:=cmpS_swap a.region b.region
 have h2:=cmpI_swap a.ch b.ch
 split <;> split <;> omega
theorem teCmp_trans {a b c:TermD} (h1:teCmp a b < 0) (h2:teCmp b c < 0):teCmp a c < 0:=by
 rw [teCmp_lt_iff] at *
 rcases h1 with h1 | ⟨e1,h1⟩
 ·rcases h2 with h2 | ⟨e2,h2⟩
  ·exact Or.inl (cmpS_trans h1 h2)
  ·rw [← e2];exact Or.inl h1
 ·rcases h2 with h2 | ⟨e2,h2⟩
  ·rw [e1];exact Or.inl h2
  ·exact Or.inr ⟨e1.trans e2,by omega⟩
theorem ter_steps {ts:List TermD} (h:TerSorted ts) (k:TermD):∀ i j (hi:i < ts.length) (hj:j < ts.length),i < j → 0 ≤ teCmp ts[i] k → 0 < teCmp ts[j] k:=by
 intro i j hi hj hij h0
 have h1:=List.pairwise_iff_getElem.1 h i j hi hj hij
 have h2:=teCmp_swap ts[i] k
 have h3:=teCmp_swap k ts[j]
 have h4:teCmp k ts[j] < 0:=by
  rcases Int.lt_or_eq_of_le (show teCmp k ts[i] ≤ 0 by omega) with h4 | h4
  ·exact teCmp_trans h4 h1
  ·have e:=teCmp_zero.1 h4
   rw [teCmp_lt_iff] at h1 ⊢
   rcases h1 with h1 | ⟨e1,h1⟩
   ·rw [e.1];exact Or.inl h1
   ·exact Or.inr ⟨e.1.trans e1,by omega⟩
 omega
theorem hasAt_some {D:Type} {c:D → Int} {ds:List D} {m:Nat} (h:hasAt c ds m = true):∃ hl:m < ds.length,ds[m]? = some ds[m]:=by
 unfold hasAt at h
 cases e:ds[m]? with
 | none => rw [e] at h;cases h
 | some d => obtain ⟨hl,e2⟩:=List.getElem?_eq_some_iff.1 e;exact ⟨hl,by rw [e2]⟩
set_option maxHeartbeats 2000000 in
set_option maxRecDepth 100000 in
theorem purposeOf_any (H:Frz) (A:Option Addr) (cap:Nat) (ps:List PurD) (name:ByteArray) (w:World) (hH:H.In w) (hP:PolIn H A ps) (hs:PurSorted ps) (hl:ps.length ≤ 1000000) :
  Calls Tryz.prog 45 #[.slice A ps.length cap,.string name] w fun e w' => e = .returned (.tuple #[purV (purF ps name),.bool (purF ps name).isSome]) ∧ Below w.heap.size w w':=by
 obtain ⟨m,-,hm,hlo,hhi,hf⟩:=split_at (fun p:PurD => cmpS p.name name) ps (pur_steps hs name)
 have hF:=hf (fun p => eqS p.name name) (fun d => by rw [eqS_iff];exact ⟨fun e => by rw [e];exact cmpS_self _,cmpS_zero⟩)
 have HF:Hid (purF ps name = if hasAt (fun p:PurD => cmpS p.name name) ps m = true then ps[m]? else none):=hF
 have HB:=Lib.hid (fun W hW => bsf_Pur H fPu 76 (.string name) (fun p => cmpS p.name name) ps (fun W d _ _ => purName_any d name W) (fun _ _ _ => by kernel_rfl) A cap W hW hP.row hl m hm hlo hhi)
 have HIN:=Lib.hid (hH.alloc (.cells #[.string ⟨#[]⟩,.slice none 0 0] 66))
 have HR:=Lib.hid hP.row
 have hb0:=Lib.hid (new1 (w:=w) (.cells #[.string ⟨#[]⟩,.slice none 0 0] 66))
 clear hf hF hlo hhi hP hs hH
 go_enter Tryz.func45,Tryz.ntmps45
 go_wp2_with fail
 refine (HB.out _ HIN.out).mono ?_
 rintro e w1 ⟨rfl,hb⟩
 have hk:=keep2 hb
 have x0:w1.cell? ⟨w.heap.size,0,none⟩ = some (.string ⟨#[]⟩):=cell_h hk 0 rfl
 have x1:w1.cell? ⟨w.heap.size,1,none⟩ = some (.slice none 0 0):=cell_h hk 1 rfl
 have y0:=froz_h hk 0
 have y1:=froz_h hk 1
 have hin1:=HIN.out.below hb
 have hb1:=Lib.hid (hb0.out.trans (hb.mono hb0.out.size))
 have hz1:w.heap.size < w1.heap.size:=lt_of_heap hk
 have HK9:=Lib.hid (fun a0 a1 => set2 hk a0 a1)
 clear hk hb
 generalize hgh:hasAt (fun p:PurD => cmpS p.name name) ps m = hh at HF
 have HGH:=Lib.hid hgh
 clear hgh
 cases hh with
 | true =>
  obtain ⟨hml,hme⟩:=hasAt_some HGH.out
  obtain ⟨b,off,rfl,hbl,hc⟩:=HR.out.at_ hin1 hml (by omega)
  have c0:w1.cell? ⟨b,off + m * 2,none⟩ = some (.string ps[m].name):=hc 0 (by omega)
  have c1:w1.cell? ⟨b,off + m * 2 + 1,none⟩ = some (.slice ps[m].adr ps[m].terms.length ps[m].cap):=hc 1 (by omega)
  have HV:Hid (purF ps name = some ps[m]):=HF.out.trans (by simp [hme])
  have hb2:=Lib.hid ((hb1.out.setCell (p:=⟨w.heap.size,0,none⟩) (Nat.le_refl _) (.string ps[m].name)).setCell (p:=⟨w.heap.size,1,none⟩) (Nat.le_refl _) (.slice ps[m].adr ps[m].terms.length ps[m].cap))
  clear hc hme
  generalize ps[m] = p at c0 c1 HV hb2
  go_wp2_with fail
  have z0:=cell_h (HK9.out (.string p.name) (.slice p.adr p.terms.length p.cap)) 0 (v:=.string p.name) rfl
  have z1:=cell_h (HK9.out (.string p.name) (.slice p.adr p.terms.length p.cap)) 1 (v:=.slice p.adr p.terms.length p.cap) rfl
  refine bodyPost_ret (v:=.tuple #[.agg #[.string p.name,.slice p.adr p.terms.length p.cap],.bool true]) (by simp [results,Tryz.results45,go_sem,z0,z1]) rfl ⟨by rw [HV.out];rfl,hb2.out⟩
 | false =>
  have HV:Hid (purF ps name = none):=HF.out
  have hb2:=Lib.hid ((hb1.out.setCell (p:=⟨w.heap.size,0,none⟩) (Nat.le_refl _) (.string ⟨#[]⟩)).setCell (p:=⟨w.heap.size,1,none⟩) (Nat.le_refl _) (.slice none 0 0))
  go_wp2_with fail
  have z0:=cell_h (HK9.out (.string ⟨#[]⟩) (.slice none 0 0)) 0 (v:=.string ⟨#[]⟩) rfl
  have z1:=cell_h (HK9.out (.string ⟨#[]⟩) (.slice none 0 0)) 1 (v:=.slice none 0 0) rfl
  refine bodyPost_ret (v:=.tuple #[.agg #[.string ⟨#[]⟩,.slice none 0 0],.bool false]) (by simp [results,Tryz.results45,go_sem,z0,z1]) rfl ⟨by rw [HV.out];rfl,hb2.out⟩
set_option maxHeartbeats 2000000 in
set_option maxRecDepth 100000 in
theorem termOf_any (H:Frz) (A:Option Addr) (cap:Nat) (ps:List PurD) (name region:ByteArray) (ch:Int) (w:World) (hH:H.In w) (hP:PolIn H A ps) (hs:PurSorted ps) (hts:∀ p ∈ ps,TerSorted p.terms) (hl:ps.length ≤ 1000000) :
  Calls Tryz.prog 53 #[.slice A ps.length cap,.string name,.string region,.int .i64 ch] w fun e w' => e = .returned (.tuple #[terV (termF ps name region ch),.bool (termF ps name region ch).isSome]) ∧ Below w.heap.size w w':=by
 have HPU:=Lib.hid (fun W hW => purposeOf_any H A cap ps name W hW hP hs hl)
 have HIN:=Lib.hid (hH.alloc (.cells #[.string ⟨#[]⟩,.int .i64 0,.bool false,.int .i64 0,.int .i64 0] 68))
 have hb0:=Lib.hid (new1 (w:=w) (.cells #[.string ⟨#[]⟩,.int .i64 0,.bool false,.int .i64 0,.int .i64 0] 68))
 -- what stands in the purpose
 have hT:Hid (∃ (A2:Option Addr) (c2:Nat) (nm:ByteArray) (ts:List TermD),purV (purF ps name) = .agg #[.string nm,.slice A2 ts.length c2] ∧ Rw H A2 5 fTe ts ∧ TerSorted ts ∧ ts.length ≤ 1000000 ∧ termF ps name region ch = teF ts region ch):=by
  show ∃ _,_
  unfold termF purF
  cases e:ps.find? fun p => eqS p.name name with
  | none => exact ⟨none,0,⟨#[]⟩,[],rfl,Rw.nil,List.Pairwise.nil,by simp,rfl⟩
  | some p =>
   have hp:=List.mem_of_find?_eq_some e
   exact ⟨p.adr,p.cap,p.name,p.terms,rfl,hP.terms p hp,hts p hp,by have:=(hP.size p hp).2.1;omega,rfl⟩
 obtain ⟨A2,c2,nm,ts,hpv,hR2,hts2,htl,htf⟩:=hT.out
 obtain ⟨m,-,hm,hlo,hhi,hf⟩:=split_at (fun t:TermD => teCmp t ⟨region,ch,false,0,0⟩) ts (ter_steps hts2 _)
 have hF:=hf (fun t => eqS t.region region && decide (t.ch = ch)) (fun d => by rw [Bool.and_eq_true,eqS_iff,decide_eq_true_iff,teCmp_zero])
 have HF:Hid (termF ps name region ch = if hasAt (fun t:TermD => teCmp t ⟨region,ch,false,0,0⟩) ts m = true then ts[m]? else none):=htf.trans hF
 have HB:=Lib.hid (fun W hW => bsf_Ter H fTe 93 (fTe ⟨region,ch,false,0,0⟩) (fun t => teCmp t ⟨region,ch,false,0,0⟩) ts (fun W d _ _ => termOrder_any d ⟨region,ch,false,0,0⟩ W) (fun _ _ _ => by kernel_rfl) A2 c2 W hW hR2 htl m hm hlo hhi)
 have HPV:=Lib.hid hpv
 have HR2:=Lib.hid hR2
 clear hT hpv hR2 hts2 htf hlo hhi hf hF hP hs hts hH
 go_enter Tryz.func53,Tryz.ntmps53
 go_wp2_with fail
 refine (HPU.out _ HIN.out).mono ?_
 rintro e w1 ⟨rfl,hb⟩
 rw [HPV.out]
 have hk:=keep2 hb
 have hin1:=HIN.out.below hb
 have hb1:=Lib.hid (hb0.out.trans (hb.mono hb0.out.size))
 have HB2:=Lib.hid (fun W hW => hb1.out.trans (Below.mono (w:=w1) (w':=W) hW hb1.out.size))
 have hz1:w.heap.size < w1.heap.size:=lt_of_heap hk
 have HK:=Lib.hid hk
 have HIN2:=Lib.hid (hin1.alloc (.cells #[.string nm,.slice A2 ts.length c2] 66))
 have hbp:=Lib.hid (new1 (w:=w1) (.cells #[.string nm,.slice A2 ts.length c2] 66))
 clear hk hb HPU HPV HIN hin1
 generalize (purF ps name).isSome = hasP
 go_wp2_with fail
 refine (HB.out _ HIN2.out).mono ?_
 rintro e w2 ⟨rfl,hb⟩
 have hk2:=keep2 hb
 have v0:w2.cell? ⟨w1.heap.size,0,none⟩ = some (.string nm):=cell_h hk2 0 rfl
 have v1:w2.cell? ⟨w1.heap.size,1,none⟩ = some (.slice A2 ts.length c2):=cell_h hk2 1 rfl
 have hbb:=Lib.hid (hbp.out.trans (hb.mono hbp.out.size))
 have hk:=(hbb.out.block _ hz1).trans HK.out
 have x0:w2.cell? ⟨w.heap.size,0,none⟩ = some (.string ⟨#[]⟩):=cell_h hk 0 rfl
 have x1:w2.cell? ⟨w.heap.size,1,none⟩ = some (.int .i64 0):=cell_h hk 1 rfl
 have x2:w2.cell? ⟨w.heap.size,2,none⟩ = some (.bool false):=cell_h hk 2 rfl
 have x3:w2.cell? ⟨w.heap.size,3,none⟩ = some (.int .i64 0):=cell_h hk 3 rfl
 have x4:w2.cell? ⟨w.heap.size,4,none⟩ = some (.int .i64 0):=cell_h hk 4 rfl
 have y0:=froz_h hk 0
 have y1:=froz_h hk 1
 have y2:=froz_h hk 2
 have y3:=froz_h hk 3
 have y4:=froz_h hk 4
 have hz2:w.heap.size < w2.heap.size:=lt_of_heap hk
 have hne:¬ w1.heap.size = w.heap.size:=by omega
 have hne':¬ w.heap.size = w1.heap.size:=by omega
 have hin2:=HIN2.out.below hb
 have HB5:=Lib.hid (HB2.out w2 hbb.out)
 have HST:Hid (∀ a0 a1 a2 a3 a4:Value,Below w.heap.size w (((((w2.setCell ⟨w.heap.size,0,none⟩ a0).setCell ⟨w.heap.size,1,none⟩ a1).setCell ⟨w.heap.size,2,none⟩ a2).setCell ⟨w.heap.size,3,none⟩ a3).setCell ⟨w.heap.size,4,none⟩ a4)):=fun a0 a1 a2 a3 a4 => ((((HB5.out.setCell (p:=⟨w.heap.size,0,none⟩) (Nat.le_refl _) a0).setCell (p:=⟨w.heap.size,1,none⟩) (Nat.le_refl _) a1).setCell (p:=⟨w.heap.size,2,none⟩) (Nat.le_refl _) a2).setCell (p:=⟨w.heap.size,3,none⟩) (Nat.le_refl _) a3).setCell (p:=⟨w.heap.size,4,none⟩) (Nat.le_refl _) a4
 have HK9:=Lib.hid (fun a0 a1 a2 a3 a4 => set5 hk a0 a1 a2 a3 a4)
 clear hk hb hk2 hz1
 generalize hgh:hasAt (fun t:TermD => teCmp t ⟨region,ch,false,0,0⟩) ts m = hh at HF
 have HGH:=Lib.hid hgh
 clear hgh
 cases hh with
 | true =>
  obtain ⟨hml,hme⟩:=hasAt_some HGH.out
  obtain ⟨b,off,rfl,hbl,hc⟩:=HR2.out.at_ hin2 hml (by omega)
  have c0:w2.cell? ⟨b,off + m * 5,none⟩ = some (.string ts[m].region):=hc 0 (by omega)
  have c1:w2.cell? ⟨b,off + m * 5 + 1,none⟩ = some (.int .i64 ts[m].ch):=hc 1 (by omega)
  have c2:w2.cell? ⟨b,off + m * 5 + 2,none⟩ = some (.bool ts[m].free):=hc 2 (by omega)
  have c3:w2.cell? ⟨b,off + m * 5 + 3,none⟩ = some (.int .i64 ts[m].days):=hc 3 (by omega)
  have c4:w2.cell? ⟨b,off + m * 5 + 4,none⟩ = some (.int .i64 ts[m].wait):=hc 4 (by omega)
  have HV:Hid (termF ps name region ch = some ts[m]):=HF.out.trans (by simp [hme])
  have HFIN:=Lib.hid (HST.out (.string ts[m].region) (.int .i64 ts[m].ch) (.bool ts[m].free) (.int .i64 ts[m].days) (.int .i64 ts[m].wait))
  clear hc hme HF HST
  generalize ts[m] = p at *
  go_wp2_with fail
  have z0:=cell_h (HK9.out (.string p.region) (.int .i64 p.ch) (.bool p.free) (.int .i64 p.days) (.int .i64 p.wait)) 0 (v:=.string p.region) rfl
  have z1:=cell_h (HK9.out (.string p.region) (.int .i64 p.ch) (.bool p.free) (.int .i64 p.days) (.int .i64 p.wait)) 1 (v:=.int .i64 p.ch) rfl
  have z2:=cell_h (HK9.out (.string p.region) (.int .i64 p.ch) (.bool p.free) (.int .i64 p.days) (.int .i64 p.wait)) 2 (v:=.bool p.free) rfl
  have z3:=cell_h (HK9.out (.string p.region) (.int .i64 p.ch) (.bool p.free) (.int .i64 p.days) (.int .i64 p.wait)) 3 (v:=.int .i64 p.days) rfl
  have z4:=cell_h (HK9.out (.string p.region) (.int .i64 p.ch) (.bool p.free) (.int .i64 p.days) (.int .i64 p.wait)) 4 (v:=.int .i64 p.wait) rfl
  refine bodyPost_ret (v:=.tuple #[.agg #[.string p.region,.int .i64 p.ch,.bool p.free,.int .i64 p.days,.int .i64 p.wait],.bool true]) (by simp [results,Tryz.results53,go_sem,z0,z1,z2,z3,z4]) rfl ⟨by rw [HV.out];rfl,HFIN.out⟩
 | false =>
  have HV:Hid (termF ps name region ch = none):=HF.out
  have HFIN:=Lib.hid (HST.out (.string ⟨#[]⟩) (.int .i64 0) (.bool false) (.int .i64 0) (.int .i64 0))
  clear HF HST
  go_wp2_with fail
  have z0:=cell_h (HK9.out (.string ⟨#[]⟩) (.int .i64 0) (.bool false) (.int .i64 0) (.int .i64 0)) 0 (v:=.string ⟨#[]⟩) rfl
  have z1:=cell_h (HK9.out (.string ⟨#[]⟩) (.int .i64 0) (.bool false) (.int .i64 0) (.int .i64 0)) 1 (v:=.int .i64 0) rfl
  have z2:=cell_h (HK9.out (.string ⟨#[]⟩) (.int .i64 0) (.bool false) (.int .i64 0) (.int .i64 0)) 2 (v:=.bool false) rfl
  have z3:=cell_h (HK9.out (.string ⟨#[]⟩) (.int .i64 0) (.bool false) (.int .i64 0) (.int .i64 0)) 3 (v:=.int .i64 0) rfl
  have z4:=cell_h (HK9.out (.string ⟨#[]⟩) (.int .i64 0) (.bool false) (.int .i64 0) (.int .i64 0)) 4 (v:=.int .i64 0) rfl
  refine bodyPost_ret (v:=.tuple #[.agg #[.string ⟨#[]⟩,.int .i64 0,.bool false,.int .i64 0,.int .i64 0],.bool false]) (by simp [results,Tryz.results53,go_sem,z0,z1,z2,z3,z4]) rfl ⟨by rw [HV.out];rfl,HFIN.out⟩
theorem upTo_pre {l:List StD} (at_:Int):upTo l at_ = l.take (upTo l at_).length:=by
 have h:(upTo l at_) ++ (l.dropWhile fun s => decide (s.at_ ≤ at_)) = l:=List.takeWhile_append_dropWhile
 have h2:((upTo l at_) ++ (l.dropWhile fun s => decide (s.at_ ≤ at_))).take (upTo l at_).length = upTo l at_:=List.take_left' rfl
 rw [h] at h2
 exact h2.symm
theorem upTo_cut {l:List StD} (hs:l.Pairwise fun a b => a.at_ ≤ b.at_) (at_:Int):(upTo l at_).length ≤ l.length ∧ (∀ i (h:i < l.length),i < (upTo l at_).length → cmpI l[i].at_ (at_ + 1) < 0) ∧ (∀ i (h:i < l.length),(upTo l at_).length ≤ i → 0 ≤ cmpI l[i].at_ (at_ + 1)):=by
 have e:=List.takeWhile_append_dropWhile (p:=fun s:StD => decide (s.at_ ≤ at_)) (l:=l)
 refine ⟨(List.takeWhile_sublist _).length_le,fun i h hi => ?_,fun i h hi => ?_⟩
 ·have h1:l[i]? = (upTo l at_)[i]?:=by
   have h2:((upTo l at_) ++ (l.dropWhile fun s => decide (s.at_ ≤ at_)))[i]? = (upTo l at_)[i]?:=List.getElem?_append_left hi
   rw [show (upTo l at_) ++ (l.dropWhile fun s => decide (s.at_ ≤ at_)) = l from e] at h2
   exact h2
  rw [List.getElem?_eq_getElem h,List.getElem?_eq_getElem hi] at h1
  injection h1 with h1
  have h3:=List.all_eq_true.1 (List.all_takeWhile (p:=fun s:StD => decide (s.at_ ≤ at_)) (l:=l)) _ (List.getElem_mem hi)
  have h4:(upTo l at_)[i].at_ ≤ at_:=by simpa using h3
  rw [cmpI_lt,h1];omega
 ·generalize hk:(upTo l at_).length = k at hi
  have hkl:k < l.length:=by omega
  have hd:(l.dropWhile fun s => decide (s.at_ ≤ at_)).head? = some l[k]:=by
   have:l[k]? = (l.dropWhile fun s => decide (s.at_ ≤ at_))[0]?:=by
    conv => lhs;rw [← e]
    rw [List.getElem?_append_right (by show (upTo l at_).length ≤ k;omega),show k - (l.takeWhile fun s => decide (s.at_ ≤ at_)).length = 0 from by show k - (upTo l at_).length = 0;omega]
   rw [List.head?_eq_getElem?,← this,List.getElem?_eq_getElem hkl]
  have h0:¬ l[k].at_ ≤ at_:=by
   have:=List.head?_dropWhile_not (fun s:StD => decide (s.at_ ≤ at_)) l
   rw [hd] at this
   simpa using this
  have hki:l[k].at_ ≤ l[i].at_:=by
   rcases Nat.lt_or_eq_of_le hi with h1 | h1
   ·exact List.pairwise_iff_getElem.1 hs k i hkl h h1
   ·subst h1;exact Int.le_refl _
  apply Classical.byContradiction
  intro hc
  have:=cmpI_lt.1 (show cmpI l[i].at_ (at_ + 1) < 0 by omega)
  omega
set_option maxHeartbeats 1000000 in
theorem upTo_any (H:Frz) (A:Option Addr) (cap:Nat) (l:List StD) (at_:Int) (w:World) (hH:H.In w) (hR:Rw H A 8 fSt l) (hs:l.Pairwise fun a b => a.at_ ≤ b.at_) (hl:l.length ≤ 1000000) (hcap:l.length ≤ cap) (h0:-1000000000000 ≤ at_) (h1:at_ ≤ 1000000000000) :
  Calls Tryz.prog 55 #[.slice A l.length cap,.int .i64 at_] w fun e w' => e = .returned (.slice A (upTo l at_).length cap) ∧ Below w.heap.size w w':=by
 obtain ⟨hm,hlo,hhi⟩:=upTo_cut hs at_
 have HB:=Lib.hid (bsf_Sta H fSt 99 (.int .i64 (at_ + 1)) (fun s => cmpI s.at_ (at_ + 1)) l (fun W d _ _ => upToC_any d (at_ + 1) W) (fun _ _ _ => by kernel_rfl) A cap w hH hR hl (upTo l at_).length hm hlo hhi)
 have hm2:(upTo l at_).length ≤ cap:=by omega
 generalize hasAt (fun s:StD => cmpI s.at_ (at_ + 1)) l (upTo l at_).length = q at HB
 generalize (upTo l at_).length = n at *
 have hn1:(n:Int) ≤ cap:=by omega
 clear hlo hhi hs hR hH
 go_enter Tryz.func55,Tryz.ntmps55
 go_wp2_with fail
 refine HB.out.mono ?_
 rintro e w1 ⟨rfl,hb⟩
 have HB1:=Lib.hid hb
 clear hb HB
 cases A with
 | none =>
  go_wp2_with fail
  go_ret
  exact ⟨rfl,HB1.out⟩
 | some a =>
  go_wp2_with fail
  go_ret
  exact ⟨rfl,HB1.out⟩
open Go.RowKit
theorem below_set3 {w w1:World} {B g:Nat} (h:Below B w w1) (hg:B ≤ g) (a0 a1 a2:Value):Below B w (((w1.setCell ⟨g,0,none⟩ a0).setCell ⟨g,1,none⟩ a1).setCell ⟨g,2,none⟩ a2):=(((h.setCell (p:=⟨g,0,none⟩) hg a0).setCell (p:=⟨g,1,none⟩) hg a1).setCell (p:=⟨g,2,none⟩) hg a2)
theorem below_set8 {w w1:World} {B g:Nat} (h:Below B w w1) (hg:B ≤ g) (a0 a1 a2 a3 a4 a5 a6 a7:Value):Below B w ((((((((w1.setCell ⟨g,0,none⟩ a0).setCell ⟨g,1,none⟩ a1).setCell ⟨g,2,none⟩ a2).setCell ⟨g,3,none⟩ a3).setCell ⟨g,4,none⟩ a4).setCell ⟨g,5,none⟩ a5).setCell ⟨g,6,none⟩ a6).setCell ⟨g,7,none⟩ a7):=((((((((h.setCell (p:=⟨g,0,none⟩) hg a0).setCell (p:=⟨g,1,none⟩) hg a1).setCell (p:=⟨g,2,none⟩) hg a2).setCell (p:=⟨g,3,none⟩) hg a3).setCell (p:=⟨g,4,none⟩) hg a4).setCell (p:=⟨g,5,none⟩) hg a5).setCell (p:=⟨g,6,none⟩) hg a6).setCell (p:=⟨g,7,none⟩) hg a7)
theorem objF_snoc {l:List StD} {i:Nat} (h:i < l.length):objF (l.take (i + 1)) = objStep (objF (l.take i)) l[i]:=by
 unfold objF
 rw [List.take_succ_eq_append_getElem h,List.foldl_append]
 rfl
set_option maxHeartbeats 2000000 in
set_option maxRecDepth 100000 in
theorem objected_any (H:Frz) (A:Option Addr) (cap:Nat) (l:List StD) (w:World) (hH:H.In w) (hR:Rw H A 8 fSt l) (hl:l.length ≤ 1000000) :
  Calls Tryz.prog 56 #[.slice A l.length cap] w fun e w' => e = .returned (.tuple #[.int .i64 (objF l).no,.bool (objF l).is]) ∧ Below w.heap.size w w':=by
 have HR:=Lib.hid hR
 have HH:=Lib.hid hH
 clear hR hH
 go_enter Tryz.func56,Tryz.ntmps56
 go_wp2_with fail
 go_loopw [4,5,6,11] (fun a b c t wr => ∃ (i:Nat) (o:ObjD),i ≤ l.length ∧ t = .int .i64 i ∧ a = .int .i64 o.no ∧ b = .int .i64 o.last ∧ c = .bool o.is ∧ Hid (o = objF (l.take i)) ∧ Hid (Below w.heap.size w wr)) (fun _ _ _ t _ => l.length - (intOf t).toNat)
 case atStart => exact ⟨0,⟨0,-1,false⟩,by omega,rfl,rfl,rfl,rfl,rfl,Below.refl _ _⟩
 case round =>
  obtain ⟨i,o,hi,rfl,rfl,rfl,rfl,ho,hb⟩:=hrel
  by_cases hlt:i < l.length
  ·obtain ⟨b,off,rfl,hbl,hc⟩:=HR.out.at_ (HH.out.below hb.out) hlt (by omega)
   have c0:wr.cell? ⟨b,off + i * 8,none⟩ = some (.int .i64 l[i].no):=hc 0 (by omega)
   have c1:wr.cell? ⟨b,off + i * 8 + 1,none⟩ = some (.int .i64 l[i].at_):=hc 1 (by omega)
   have c2:wr.cell? ⟨b,off + i * 8 + 2,none⟩ = some (.int .i64 l[i].kind):=hc 2 (by omega)
   have c3:wr.cell? ⟨b,off + i * 8 + 3,none⟩ = some (.string l[i].text):=hc 3 (by omega)
   have c4:wr.cell? ⟨b,off + i * 8 + 4,none⟩ = some (.string l[i].purp):=hc 4 (by omega)
   have c5:wr.cell? ⟨b,off + i * 8 + 5,none⟩ = some (.string l[i].region):=hc 5 (by omega)
   have c6:wr.cell? ⟨b,off + i * 8 + 6,none⟩ = some (.int .i64 l[i].ch):=hc 6 (by omega)
   have c7:wr.cell? ⟨b,off + i * 8 + 7,none⟩ = some (.int .i64 l[i].what):=hc 7 (by omega)
   have HO:Hid (objF (l.take (i + 1)) = objStep o l[i]):=(objF_snoc hlt).trans (by rw [ho.out])
   clear hc
   generalize l[i] = d at *
   have z0:(wr.alloc (.cells #[.int .i64 d.no,.int .i64 d.at_,.int .i64 d.kind,.string d.text,.string d.purp,.string d.region,.int .i64 d.ch,.int .i64 d.what] 53)).cell? ⟨wr.heap.size,0,none⟩ = some (.int .i64 d.no):=newc 0 rfl
   have z1:(wr.alloc (.cells #[.int .i64 d.no,.int .i64 d.at_,.int .i64 d.kind,.string d.text,.string d.purp,.string d.region,.int .i64 d.ch,.int .i64 d.what] 53)).cell? ⟨wr.heap.size,1,none⟩ = some (.int .i64 d.at_):=newc 1 rfl
   have z2:(wr.alloc (.cells #[.int .i64 d.no,.int .i64 d.at_,.int .i64 d.kind,.string d.text,.string d.purp,.string d.region,.int .i64 d.ch,.int .i64 d.what] 53)).cell? ⟨wr.heap.size,2,none⟩ = some (.int .i64 d.kind):=newc 2 rfl
   have z3:(wr.alloc (.cells #[.int .i64 d.no,.int .i64 d.at_,.int .i64 d.kind,.string d.text,.string d.purp,.string d.region,.int .i64 d.ch,.int .i64 d.what] 53)).cell? ⟨wr.heap.size,3,none⟩ = some (.string d.text):=newc 3 rfl
   have z4:(wr.alloc (.cells #[.int .i64 d.no,.int .i64 d.at_,.int .i64 d.kind,.string d.text,.string d.purp,.string d.region,.int .i64 d.ch,.int .i64 d.what] 53)).cell? ⟨wr.heap.size,4,none⟩ = some (.string d.purp):=newc 4 rfl
   have z5:(wr.alloc (.cells #[.int .i64 d.no,.int .i64 d.at_,.int .i64 d.kind,.string d.text,.string d.purp,.string d.region,.int .i64 d.ch,.int .i64 d.what] 53)).cell? ⟨wr.heap.size,5,none⟩ = some (.string d.region):=newc 5 rfl
   have z6:(wr.alloc (.cells #[.int .i64 d.no,.int .i64 d.at_,.int .i64 d.kind,.string d.text,.string d.purp,.string d.region,.int .i64 d.ch,.int .i64 d.what] 53)).cell? ⟨wr.heap.size,6,none⟩ = some (.int .i64 d.ch):=newc 6 rfl
   have z7:(wr.alloc (.cells #[.int .i64 d.no,.int .i64 d.at_,.int .i64 d.kind,.string d.text,.string d.purp,.string d.region,.int .i64 d.ch,.int .i64 d.what] 53)).cell? ⟨wr.heap.size,7,none⟩ = some (.int .i64 d.what):=newc 7 rfl
   have HBN:=Lib.hid (new1 (w:=wr) (.cells #[.int .i64 d.no,.int .i64 d.at_,.int .i64 d.kind,.string d.text,.string d.purp,.string d.region,.int .i64 d.ch,.int .i64 d.what] 53))
   go_upto_region 5 with (fail)
   clear c0 c1 c2 c3 c4 c5 c6 c7
   generalize wr.alloc (.cells #[.int .i64 d.no,.int .i64 d.at_,.int .i64 d.kind,.string d.text,.string d.purp,.string d.region,.int .i64 d.ch,.int .i64 d.what] 53) = W1 at *
   have HB1:=Lib.hid (hb.out.trans (HBN.out.mono hb.out.size))
   clear hb HBN ho
   go_wp2_with fail
   refine (ofChannel_any _ _).mono ?_
   rintro e w' ⟨rfl,rfl⟩
   generalize hq:ofCh d.what = q
   have HQ:=Lib.hid hq
   clear hq
   obtain ⟨no,last,is⟩:=o
   cases q with
   | false =>
    go_wp2_with fail
    go_roundw
    case rel => exact ⟨i + 1,⟨no,last,is⟩,by omega,by go_num,rfl,rfl,rfl,by show _ = _;rw [HO.out];simp [objStep,HQ.out],HB1⟩
    case measure => simp [intOf];omega
   | true =>
    by_cases hlast:last < d.at_
    ·have h1:decide (last < d.at_) = true:=by simpa using hlast
     go_upto_region 7 with (fail)
     go_quiet (fail)
     have HB2:=Lib.hid (below_drewN HB1.out nq)
     have y0:(W1.drewN nq).cell? ⟨wr.heap.size,0,none⟩ = some (.int .i64 d.no):=z0
     have y6:(W1.drewN nq).cell? ⟨wr.heap.size,6,none⟩ = some (.int .i64 d.ch):=z6
     have y7:(W1.drewN nq).cell? ⟨wr.heap.size,7,none⟩ = some (.int .i64 d.what):=z7
     generalize W1.drewN nq = W2 at HB2 y0 y6 y7
     clear z0 z1 z2 z3 z4 z5 z6 z7 HB1
     by_cases h4:d.what = 4
     ·have h4':(d.what == 4) = true:=by simpa using h4
      have HS:Hid (objF (l.take (i + 1)) = ⟨d.no,d.at_,true⟩):=HO.out.trans (by simp only [objStep,HQ.out];simp [hlast,h4])
      clear h4 hlast
      go_wp2_with fail
      go_roundw
      case rel => exact ⟨i + 1,⟨d.no,d.at_,true⟩,by omega,by go_num,rfl,rfl,rfl,HS.out.symm,HB2⟩
      case measure => simp [intOf];omega
     ·have h4':(d.what == 4) = false:=by simpa using h4
      have HS:Hid (objF (l.take (i + 1)) = ⟨0,d.at_,false⟩):=HO.out.trans (by simp only [objStep,HQ.out];simp [hlast,h4])
      clear h4 hlast
      go_wp2_with fail
      go_roundw
      case rel => exact ⟨i + 1,⟨0,d.at_,false⟩,by omega,by go_num,rfl,rfl,rfl,HS.out.symm,HB2⟩
      case measure => simp [intOf];omega
    ·have h1:decide (last < d.at_) = false:=by simpa using hlast
     by_cases h4:d.what = 4 ∧ is = false
     ·obtain ⟨h4,rfl⟩:=h4
      have h4':(d.what == 4) = true:=by simpa using h4
      have HS:Hid (objF (l.take (i + 1)) = ⟨d.no,last,true⟩):=HO.out.trans (by simp only [objStep,HQ.out];simp [hlast,h4])
      clear h4 hlast
      go_wp2_with fail
      go_roundw
      case rel => exact ⟨i + 1,⟨d.no,last,true⟩,by omega,by go_num,rfl,rfl,rfl,HS.out.symm,HB1⟩
      case measure => simp [intOf];omega
     ·have HS:Hid (objF (l.take (i + 1)) = ⟨no,last,is⟩):=HO.out.trans (by simp only [objStep,HQ.out,if_neg hlast];rw [if_neg h4];rfl)
      by_cases h5:d.what = 4
      ·have h4':(d.what == 4) = true:=by simpa using h5
       have h6:is = true:=by cases is <;> simp_all
       subst h6
       clear h4 hlast h5
       go_wp2_with fail
       go_roundw
       case rel => exact ⟨i + 1,⟨no,last,true⟩,by omega,by go_num,rfl,rfl,rfl,HS.out.symm,HB1⟩
       case measure => simp [intOf];omega
      ·have h4':(d.what == 4) = false:=by simpa using h5
       clear h4 hlast h5
       go_wp2_with fail
       go_roundw
       case rel => exact ⟨i + 1,⟨no,last,is⟩,by omega,by go_num,rfl,rfl,rfl,HS.out.symm,HB1⟩
       case measure => simp [intOf];omega
  ·have hie:i = l.length:=by omega
   subst hie
   have ho2:Hid (o = objF l):=by have:=ho.out;rwa [List.take_length] at this
   go_wp2_with fail
   go_ret2
   exact ⟨by rw [← ho2.out];simp,hb.out⟩
end Go.Proofs.YtcncifmanodabaaGreatDoor
