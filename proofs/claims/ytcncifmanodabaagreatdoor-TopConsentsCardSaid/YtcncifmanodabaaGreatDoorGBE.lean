/- Texts of this claim, put together: RightP, Persons, PersW, Together, TogP, SplitC, RuneP, MeasP. -/
import Derived.Test.YtcncifmanodabaaGreatDoorGBA
import Derived.Test.YtcncifmanodabaaGreatDoorGBD
import Derived.Test.YtcncifmanodabaaGreatDoorGAU
import Derived.Test.YtcncifmanodabaaGreatDoorGAR
import Derived.Test.YtcncifmanodabaaGreatDoorGAE
import Derived.Test.YtcncifmanodabaaGreatDoorGAW
import Derived.Shelf.Unicode.DecodeSlow
namespace Go.Proofs.YtcncifmanodabaaGreatDoor
set_option linter.unusedVariables false
open Go.RowKit
theorem chainP {D:Type} {R:D → D → Prop} (ht:∀ a b c,R a b → R b c → R a c) {l:List D} (h:∀ i (h1:i + 1 < l.length),R l[i] l[i + 1]):l.Pairwise R:=by
 rw [List.pairwise_iff_getElem]
 intro i j hi hj hij
 have:∀ k,(hk:i + k + 1 < l.length) → R l[i] l[i + k + 1]:=by
  intro k
  induction k with
  | zero => intro hk;exact h i hk
  | succ k ih =>
   intro hk
   exact ht _ _ _ (ih (by omega)) (h (i + k + 1) hk)
 have h2:=this (j - i - 1) (by omega)
 have e:i + (j - i - 1) + 1 = j:=by omega
 simp only [e] at h2
 exact h2
theorem rising_of {ids:List IdD} (h:idsO ids = 0):RisingI ids ∧ ∀ x ∈ ids,idErr x.kind x.text = 0:=by
 have h0:=fstErr_zero.1 h
 have hE:∀ i (hi:i < ids.length),idErr ids[i].kind ids[i].text = 0:=fun i hi => by
  have:=h0 i hi
  rw [idO1_at hi] at this
  apply Classical.byContradiction
  intro c
  rw [if_pos c] at this
  exact c this
 refine ⟨chainP (R:=fun a b => idCmp a b < 0) (fun a b c h1 h2 => idCmp_lt_trans h1 h2) fun i hi => ?_,fun x hx => ?_⟩
 ·have:=h0 (i + 1) hi
  rw [idO1_at hi,if_neg (by rw [hE _ hi];simp)] at this
  have h3:=idCmp_ok.swap ids[i] ids[i + 1]
  have h4:¬ (0 < i + 1 ∧ idCmp ids[i + 1] (ids.getD (i + 1 - 1) ids[i + 1]) ≤ 0):=fun c => by
   rw [if_pos c] at this
   cases this
  have h5:ids.getD (i + 1 - 1) ids[i + 1] = ids[i]:=by
   rw [Nat.add_sub_cancel,List.getD_eq_getElem?_getD,List.getElem?_eq_getElem (by omega),Option.getD_some]
  rw [h5] at h4
  have:¬ idCmp ids[i + 1] ids[i] ≤ 0:=fun c => h4 ⟨by omega,c⟩
  omega
 ·obtain ⟨i,hi,rfl⟩:=List.getElem_of_mem hx
  exact hE i hi
theorem rising_ne {ids:List IdD} (h:RisingI ids):ids.Pairwise (· ≠ ·):=h.imp fun {a b} h e => by
 have:=idCmp_zero.2 e
 omega
structure RightT (t:TchD):Prop where
 no:1 ≤ t.no ∧ t.no ≤ 1000000
 at_:0 ≤ t.at_ ∧ t.at_ ≤ 4321439
 src:isKey t.source = true
 len:0 < t.ids.length ∧ t.ids.length ≤ 10
 ids:RisingI t.ids
 idE:∀ x ∈ t.ids,idErr x.kind x.text = 0
theorem tchE_zero {ok:ByteArray → Bool} {t:TchD} {n:Int} (h:tchE ok t n = 0):RightT t ∧ n < t.no ∧ fdsE ok t.fields = 0:=by
 unfold tchE at h
 by_cases g1:1 ≤ t.no ∧ t.no ≤ 1000000
 rotate_left
 ·rw [if_pos g1] at h;cases h
 rw [if_neg (fun c => c g1)] at h
 by_cases g2:0 ≤ t.at_ ∧ t.at_ ≤ 4321439
 rotate_left
 ·rw [if_pos g2] at h;cases h
 rw [if_neg (fun c => c g2)] at h
 by_cases g3:t.no ≤ n
 ·rw [if_pos g3] at h;cases h
 rw [if_neg g3] at h
 by_cases g4:isKey t.source = false
 ·rw [if_pos g4] at h;cases h
 rw [if_neg g4] at h
 by_cases g5:t.ids.length = 0
 ·rw [if_pos g5] at h;cases h
 rw [if_neg g5] at h
 by_cases g6:10 < t.ids.length
 ·rw [if_pos g6] at h;cases h
 rw [if_neg g6] at h
 by_cases g7:idsO t.ids = 0
 rotate_left
 ·rw [if_pos g7] at h;exact absurd h g7
 rw [if_neg (fun c => c g7)] at h
 have hr:=rising_of g7
 exact ⟨⟨g1,g2,by simpa using g4,⟨by omega,by omega⟩,hr.1,hr.2⟩,by omega,h⟩
theorem tchs_right {ok:ByteArray → Bool} {ts:List TchD} (h:tchsE ok ts = 0):ts.length ≤ 2000 ∧ (∀ t ∈ ts,RightT t) ∧ ts.Pairwise fun a b => a.no < b.no:=by
 unfold tchsE at h
 by_cases g:2000 < ts.length
 ·rw [if_pos g] at h;cases h
 rw [if_neg g] at h
 have h0:=fstErr_zero.1 h
 refine ⟨by omega,fun t ht => ?_,chainP (R:=fun a b:TchD => a.no < b.no) (fun a b c h1 h2 => Int.lt_trans h1 h2) fun i hi => ?_⟩
 ·obtain ⟨i,hi,rfl⟩:=List.getElem_of_mem ht
  have:=h0 i hi
  rw [tch1_at hi] at this
  exact (tchE_zero this).1
 ·have:=h0 (i + 1) hi
  rw [tch1_at hi,prevNo_succ (by omega)] at this
  exact (tchE_zero this).2.1
structure RightR (r:RulD):Prop where
 kl:0 < r.kinds.length ∧ r.kinds.length ≤ 4
 ks:r.kinds.Pairwise (· < ·)
 kb:∀ k ∈ r.kinds,1 ≤ k ∧ k ≤ 4
 most:2 ≤ r.most ∧ r.most ≤ 2000
 wl:r.weaks.length ≤ 200
 ws:RisingI r.weaks
theorem len_of_rising {l:List Int} (h:l.Pairwise (· < ·)) {a b:Int} (hb:∀ k ∈ l,a ≤ k ∧ k ≤ b) (hab:a ≤ b + 1):(l.length:Int) ≤ b + 1 - a:=by
 induction l generalizing a with
 | nil => simp;omega
 | cons x l ih =>
  obtain ⟨h1,h2⟩:=List.pairwise_cons.1 h
  have hx:=hb x (by simp)
  have:=ih h2 (a:=x + 1) (fun k hk => ⟨by have:=h1 k hk;omega,(hb k (by simp [hk])).2⟩) (by omega)
  simp only [List.length_cons]
  omega
theorem rul_right {r:RulD} (h:rulE r = 0):RightR r ∧ sursE r.surs = 0:=by
 unfold rulE at h
 by_cases g1:kdsE r.kinds = 0
 rotate_left
 ·rw [if_pos g1] at h;exact absurd h g1
 rw [if_neg (fun c => c g1)] at h
 by_cases g2:2 ≤ r.most ∧ r.most ≤ 2000
 rotate_left
 ·rw [if_pos g2] at h;cases h
 rw [if_neg (fun c => c g2)] at h
 by_cases g3:200 < r.weaks.length
 ·rw [if_pos g3] at h;cases h
 rw [if_neg g3] at h
 by_cases g4:idsO r.weaks = 0
 rotate_left
 ·rw [if_pos g4] at h;exact absurd h g4
 rw [if_neg (fun c => c g4)] at h
 unfold kdsE at g1
 by_cases g5:r.kinds.length = 0
 ·rw [if_pos g5] at g1;cases g1
 rw [if_neg g5] at g1
 have h0:=fstErr_zero.1 g1
 have kb:∀ k ∈ r.kinds,1 ≤ k ∧ k ≤ 4:=fun k hk => by
  obtain ⟨i,hi,rfl⟩:=List.getElem_of_mem hk
  have:=h0 i hi
  rw [kd1_at hi] at this
  apply Classical.byContradiction
  intro c
  rw [if_pos c] at this
  cases this
 have ks:r.kinds.Pairwise (· < ·):=chainP (R:=fun a b:Int => a < b) (fun a b c h1 h2 => Int.lt_trans h1 h2) fun i hi => by
  have:=h0 (i + 1) hi
  rw [kd1_at hi,if_neg (fun c => c (kb _ (List.getElem_mem hi)))] at this
  have h5:r.kinds.getD (i + 1 - 1) r.kinds[i + 1] = r.kinds[i]:=by
   rw [Nat.add_sub_cancel,List.getD_eq_getElem?_getD,List.getElem?_eq_getElem (by omega),Option.getD_some]
  rw [h5] at this
  have h6:¬ (0 < i + 1 ∧ r.kinds[i + 1] ≤ r.kinds[i]):=fun c => by rw [if_pos c] at this;cases this
  have:¬ r.kinds[i + 1] ≤ r.kinds[i]:=fun c => h6 ⟨by omega,c⟩
  omega
 have kl:=len_of_rising ks kb (by omega)
 exact ⟨⟨⟨by omega,by omega⟩,ks,kb,g2,by omega,(rising_of g4).1⟩,h⟩
open Go.RowKit
theorem infoPer:(Tryz.prog.info? 42).map (fun i => (i.zero,i.size,i.bytes)) = some (some (.agg #[.int .i64 0,.string ⟨#[]⟩,.slice none 0 0,.slice none 0 0]),4,72):=by kernel_rfl
set_option maxHeartbeats 2000000 in
set_option maxRecDepth 100000 in
theorem persons_row (B:Nat) (vout:Value) (ms:List MemD) (hl:ms.length ≤ 100000) (hsl:∀ d ∈ ms,(∃ A n c,d.vT = .slice A n c) ∧ (∃ A n c,d.vI = .slice A n c) ∧ ∃ A n c,d.vA = .slice A n c) (w:World) (hO:Orow w B 121 5 fMem vout ms) :
  Calls Tryz.prog 37 #[vout] w fun e w' => ∃ v,e = .returned v ∧ Orow w' w.heap.size 42 4 fMem v ms ∧ Below w.heap.size w w':=by
 obtain ⟨i0,hi0,hz0,hz1,hz2⟩:=info_parts infoPer
 have HI0:=Lib.hid hi0
 have hslice:=hO.slice
 obtain ⟨A,cap,rfl,-⟩:=hslice
 have HO:=Lib.hid hO
 have HP0:Hid (Orow w w.heap.size 42 4 fMem (.slice none 0 0) (ms.take 0)):=World.ownsRow_nil _ _ _ _
 have HB0:Hid (Below w.heap.size w w):=Below.refl _ _
 have HSL:=Lib.hid hsl
 clear hO hi0 hsl
 go_enter Tryz.func37,Tryz.ntmps37
 go_wp2_with fail
 go_loopw [3,8] (fun v t wr => ∃ i:Nat,i ≤ ms.length ∧ t = .int .i64 i ∧ Hid (Orow wr w.heap.size 42 4 fMem v (ms.take i)) ∧ Hid (Below w.heap.size w wr)) (fun _ t _ => ms.length - (intOf t).toNat)
 case atStart => exact ⟨0,by omega,rfl,HP0,HB0⟩
 case round =>
  obtain ⟨i,hi,rfl,hp,hb⟩:=hrel
  clear HP0 HB0
  by_cases hlt:i < ms.length
  ·obtain ⟨A1,c1,hv1,_⟩:=hp.out.slice
   have HP:=Lib.hid hp.out
   have HB:=Lib.hid hb.out
   obtain ⟨go,capo,rest,hve,hcapo,hBgo,hgos,hcm,hblk,hrest⟩:=HO.out.form (fun e => by rw [e] at hlt;simp at hlt)
   have e1:A = some ⟨go,0,none⟩:=by injection hve
   subst e1
   have hbr:KBlk wr go 121 5 fMem ms rest:=(hb.out.block go hgos).trans hblk
   have c0:wr.cell? ⟨go,i * 5,none⟩ = some (.int .i64 ms[i].key.kind):=hbr.cell i 0 hlt (by omega)
   have c1:wr.cell? ⟨go,i * 5 + 1,none⟩ = some (.string ms[i].key.text):=hbr.cell i 1 hlt (by omega)
   have c2':wr.cell? ⟨go,i * 5 + 2,none⟩ = some ms[i].vT:=hbr.cell i 2 hlt (by omega)
   have c3':wr.cell? ⟨go,i * 5 + 3,none⟩ = some ms[i].vI:=hbr.cell i 3 hlt (by omega)
   have c4':wr.cell? ⟨go,i * 5 + 4,none⟩ = some ms[i].vA:=hbr.cell i 4 hlt (by omega)
   have HTK:Hid (ms.take (i + 1) = ms.take i ++ [ms[i]]):=List.take_succ_eq_append_getElem hlt
   clear hbr hblk hrest hve hcapo hcm hp hb
   have hlt2:(i:Int) < ms.length:=by omega
   have HTL:Hid ((ms.take i).length ≤ 4294967296):=by show _ ≤ _;rw [List.length_take];omega
   subst hv1
   have HSI:=Lib.hid (HSL.out _ (List.getElem_mem hlt))
   generalize ms[i] = d at *
   obtain ⟨⟨kk,kt⟩,vT,vI,vA⟩:=d
   obtain ⟨⟨A2,n2,c2,e1⟩,⟨A3,n3,c3,e2⟩,⟨A4,n4,c4,e3⟩⟩:=HSI.out
   dsimp only at *
   subst e1 e2 e3
   clear HSI
   have HZ:=Lib.hid (heap_alloc_new wr (.cells #[.int .i64 kk,.string kt,.slice A2 n2 c2,.slice A3 n3 c3,.slice A4 n4 c4] 121))
   have HP1:=Lib.hid (HP.out.below (new1 (w:=wr) (.cells #[.int .i64 kk,.string kt,.slice A2 n2 c2,.slice A3 n3 c3,.slice A4 n4 c4] 121)))
   have HB1:=Lib.hid (HB.out.trans ((new1 (w:=wr) (.cells #[.int .i64 kk,.string kt,.slice A2 n2 c2,.slice A3 n3 c3,.slice A4 n4 c4] 121)).mono HB.out.size))
   have HS1:Hid (w.heap.size ≤ wr.heap.size):=HB.out.size
   clear HP HB
   go_upto_region 5 with (fail)
   clear c0 c1 c2' c3' c4'
   generalize wr.alloc (.cells #[.int .i64 kk,.string kt,.slice A2 n2 c2,.slice A3 n3 c3,.slice A4 n4 c4] 121) = W1 at *
   generalize wr.heap.size = xb at *
   have x0:W1.cell? ⟨xb,0,none⟩ = some (.int .i64 kk):=cell_h HZ.out 0 rfl
   have x1:W1.cell? ⟨xb,1,none⟩ = some (.string kt):=cell_h HZ.out 1 rfl
   have x2:W1.cell? ⟨xb,2,none⟩ = some (.slice A2 n2 c2):=cell_h HZ.out 2 rfl
   have x3:W1.cell? ⟨xb,3,none⟩ = some (.slice A3 n3 c3):=cell_h HZ.out 3 rfl
   have HS2:Hid (w.heap.size ≤ W1.heap.size):=HB1.out.size
   go_wp2_with (at_builtin;refine wpList_app_at rfl _ _ 27 rfl w.heap.size 42 i0 (.agg #[.int .i64 0,.string ⟨#[]⟩,.slice none 0 0,.slice none 0 0]) 4 72 Tryz.underlying27 HI0.out hz0 hz1 hz2 rfl (by decide) fMem _ (ms.take i) rfl HP1.out ⟨⟨kk,kt⟩,.slice A2 n2 c2,.slice A3 n3 c3,.slice A4 n4 c4⟩ #[.int .i64 kk,.string kt,.slice A2 n2 c2,.slice A3 n3 c3] 42 rfl rfl (by simp [Value.oneCell']) HTL.out (by omega) HS2.out ?_;intro v1 w7 o1 g1 b1 at1;have HO1:=Lib.hid o1;have HG1:=Lib.hid g1;have HBB1:=Lib.hid b1;clear o1 g1 b1 at1)
   have HP2:Hid (Orow w7 w.heap.size 42 4 fMem v1 (ms.take (i + 1))):=by
    show Orow _ _ _ _ _ _ _
    rw [HTK.out];exact HO1.out
   have HB2:Hid (Below w.heap.size w w7):=HB1.out.trans HBB1.out
   exact ⟨⟨i + 1,by omega,rfl,HP2,HB2⟩,by show ms.length - (i + 1) < ms.length - i;omega⟩
  ·obtain rfl:i = ms.length:=by omega
   rw [List.take_length] at hp
   obtain ⟨A1,c1,hv1,_⟩:=hp.out.slice
   subst hv1
   have HF:Hid (∃ v,Ending.returned _ = .returned v ∧ Orow wr w.heap.size 42 4 fMem v ms ∧ Below w.heap.size w wr):=⟨_,rfl,hp.out,hb.out⟩
   clear hp hb
   go_wp2_with fail
   first | exact HF.out | exact bodyPost_ret (by kernel_rfl) rfl HF.out
open Go.RowKit
def bothE (r:RulD) (ts:List TchD):Int:=if rulE r ≠ 0 then rulE r else tchsE okT ts
set_option maxHeartbeats 2000000 in
set_option maxRecDepth 100000 in
theorem checkBoth_any (H:Frz) (hU:UtfIn H) (hM:MLen H) (r:RulD) (A:Option Addr) (cap:Nat) (ts:List TchD) (w:World) (hH:H.In w) (hR:RulIn H r) (hT:TchIn H A ts) (hz:SzR r) (hl:ts.length ≤ 1000000) (hsz:∀ t ∈ ts,SzT t) :
  Calls Tryz.prog 36 #[.agg #[.slice r.ka r.kinds.length r.kc,.int .i64 r.most,.slice r.wa r.weaks.length r.wc,.slice r.sa r.surs.length r.sc],.slice A ts.length cap] w fun e w' => e = .returned (.int .i64 (bothE r ts)) ∧ Below w.heap.size w w':=by
 have z0:(w.alloc (.cells #[.slice r.ka r.kinds.length r.kc,.int .i64 r.most,.slice r.wa r.weaks.length r.wc,.slice r.sa r.surs.length r.sc] 60)).cell? ⟨w.heap.size,0,none⟩ = some (.slice r.ka r.kinds.length r.kc):=newc 0 rfl
 have z1:(w.alloc (.cells #[.slice r.ka r.kinds.length r.kc,.int .i64 r.most,.slice r.wa r.weaks.length r.wc,.slice r.sa r.surs.length r.sc] 60)).cell? ⟨w.heap.size,1,none⟩ = some (.int .i64 r.most):=newc 1 rfl
 have z2:(w.alloc (.cells #[.slice r.ka r.kinds.length r.kc,.int .i64 r.most,.slice r.wa r.weaks.length r.wc,.slice r.sa r.surs.length r.sc] 60)).cell? ⟨w.heap.size,2,none⟩ = some (.slice r.wa r.weaks.length r.wc):=newc 2 rfl
 have z3:(w.alloc (.cells #[.slice r.ka r.kinds.length r.kc,.int .i64 r.most,.slice r.wa r.weaks.length r.wc,.slice r.sa r.surs.length r.sc] 60)).cell? ⟨w.heap.size,3,none⟩ = some (.slice r.sa r.surs.length r.sc):=newc 3 rfl
 have HBN:=Lib.hid (new1 (w:=w) (.cells #[.slice r.ka r.kinds.length r.kc,.int .i64 r.most,.slice r.wa r.weaks.length r.wc,.slice r.sa r.surs.length r.sc] 60))
 have HIN:=Lib.hid (hH.below HBN.out)
 have HCR:=Lib.hid (fun W (hW:H.In W) => checkRules_any H hM r W hW hR hz)
 have HCT:=Lib.hid (fun W (hW:H.In W) => checkTchs_any H hU hM A cap ts W hW hT hl hsz)
 have HV:Hid (bothE r ts = if rulE r ≠ 0 then rulE r else tchsE okT ts):=rfl
 clear hU hM hH hR hT hz hsz
 go_enter Tryz.func36,Tryz.ntmps36
 go_wp2_with fail
 refine (HCR.out _ HIN.out).mono ?_
 rintro e W2 ⟨rfl,hb2⟩
 have HB2:=Lib.hid (HBN.out.trans (hb2.mono HBN.out.size))
 have HIN2:=Lib.hid (HIN.out.below hb2)
 clear hb2 z0 z1 z2 z3
 generalize rulE r = ie at HV ⊢
 by_cases g:ie = 0
 ·have k3:(ie != 0) = false:=by simpa using g
  rw [if_neg (by simpa using g)] at HV
  clear g
  go_wp2_with fail
  refine (HCT.out _ HIN2.out).mono ?_
  rintro e W3 ⟨rfl,hb3⟩
  have HB3:=Lib.hid (HB2.out.trans (hb3.mono HB2.out.size))
  clear hb3
  go_wp2_with fail
  go_ret
  exact ⟨ret_int HV.out.symm,HB3.out⟩
 ·have k3:(ie != 0) = true:=by simpa using g
  rw [if_pos g] at HV
  clear g
  go_wp2_with fail
  go_ret
  exact ⟨ret_int HV.out.symm,HB2.out⟩
structure PersQ (J:IdD → Bool) (ts:List TchD) (rep:Nat → Nat) (ps:List PerD):Prop where
 len:ps.length = (rts rep ts.length).length
 key:∀ k (h:k < (rts rep ts.length).length) (h':k < ps.length),ps[k].key = keyF J (tAt ts (rts rep ts.length)[k]).ids
 nos:∀ k (h:k < (rts rep ts.length).length) (h':k < ps.length),ps[k].nos = (cls rep ts.length (rts rep ts.length)[k]).map fun q => (tAt ts q).no
 ids:∀ k (h:k < (rts rep ts.length).length) (h':k < ps.length),IdsOk ((cls rep ts.length (rts rep ts.length)[k]).flatMap fun q => (tAt ts q).ids) ps[k].ids
theorem list_of {D:Type} {P:Nat → D → Prop}:∀ (n:Nat),(∀ k,k < n → ∃ d,P k d) → ∃ l:List D,l.length = n ∧ ∀ k (h:k < l.length),P k l[k]
 | 0,_ => ⟨[],rfl,fun k h => absurd h (by simp)⟩
 | n + 1,h => by
  obtain ⟨l,hl,hP⟩:=list_of n (fun k hk => h k (by omega))
  obtain ⟨d,hd⟩:=h n (by omega)
  refine ⟨l ++ [d],by simp [hl],fun k hk => ?_⟩
  by_cases e:k < l.length
  ·rw [List.getElem_append_left e]
   exact hP k e
  ·have e2:k = l.length:=by simp at hk;omega
   subst e2
   rw [List.getElem_append_right (Nat.le_refl _)]
   simp only [Nat.sub_self,List.getElem_cons_zero]
   rw [hl]
   exact hd
theorem cells_eq {D E:Type} {k:Nat} {f:D → Nat → Value} {g:E → Nat → Value} {l:List D} {l':List E} (hl:l.length = l'.length) (h:∀ i (h1:i < l.length) (h2:i < l'.length) j,j < k → f l[i] j = g l'[i] j):cellsOf k f l = cellsOf k g l':=by
 induction l generalizing l' with
 | nil =>
  cases l' with
  | nil => rfl
  | cons y l' => simp at hl
 | cons x l ih =>
  cases l' with
  | nil => simp at hl
  | cons y l' =>
   have h0:=h 0 (by simp) (by simp)
   have hr:=ih (l':=l') (by simpa using hl) (fun i h1 h2 j hj => by
    have:=h (i + 1) (by simp;omega) (by simp;omega) j hj
    simpa using this)
   unfold cellsOf at hr ⊢
   rw [List.flatMap_cons,List.flatMap_cons,hr]
   congr 1
   exact List.map_congr_left fun j hj => h0 j (List.mem_range.1 hj)
def newH (n:Nat) (w:World):Frz:=fun b => if b < n then none else w.heap[b]?
theorem newH_le (n:Nat) (w:World):(newH n w).Le (wholeH w):=fun b o h => by
 unfold newH at h
 split at h
 ·cases h
 ·exact h
theorem newH_all {n:Nat} {w:World} {H:Frz}:(newH n w).Le (H.all w n):=fun b o h => by
 unfold newH at h
 unfold Frz.all
 split at h
 ·cases h
 ·next g => rw [if_neg g];exact h
theorem Orow.memN {D:Type} {w:World} {B T k:Nat} {f:D → Nat → Value} {v:Value} {ds:List D} (h:Orow w B T k f v ds) {n:Nat} (hn:n ≤ B):∃ A c,v = .slice A ds.length c ∧ ds.length ≤ c ∧ Rw (newH n w) A k f ds:=by
 rcases h.2 with ⟨rfl,h0⟩ | ⟨g,cap,cur,rfl,hB,hh,hle,hm,hs,ht⟩
 ·have:ds = []:=List.eq_nil_of_length_eq_zero h0
  subst this
  exact ⟨none,0,rfl,Nat.le_refl _,Rw.nil⟩
 ·refine ⟨some ⟨g,0,none⟩,cap,rfl,hle,fun i hi => ⟨g,0,rfl,fun j hj => ?_⟩⟩
  have hx:=cellsOf_get k f ds i j hi hj
  rw [← ht] at hx
  have hlt:i * k + j < ds.length * k:=by
   have:(i + 1) * k ≤ ds.length * k:=Nat.mul_le_mul_right _ hi
   rw [Nat.succ_mul] at this;omega
  rw [List.getElem?_take_of_lt hlt] at hx
  unfold Frz.cell? newH
  rw [if_neg (by show ¬ g < n;omega)]
  simp only [hh]
  simpa using hx
theorem PerIn.le {H H':Frz} {A:Option Addr} {ps:List PerD} (h:PerIn H A ps) (hl:H.Le H'):PerIn H' A ps:=⟨h.1.le hl,fun p hp => ⟨(h.2 p hp).1.le hl,(h.2 p hp).2.le hl⟩⟩
theorem pers_of {w W W':World} {B:Nat} {J:IdD → Bool} {ts:List TchD} {rep:Nat → Nat} {ms:List MemD} {nos ats:Nat → List Int} {ids:Nat → List IdD} {vout v:Value} (hM:MS w B ms nos ids ats vout W) (hQ:MemQ J ts rep ms nos ids ats) {C:Nat} (hO:Orow W' C 42 4 fMem v ms) (hb:Below W.heap.size W W') {n:Nat} (hn1:n ≤ B) (hn2:n ≤ C) :
  ∃ (A:Option Addr) (c:Nat) (ps:List PerD),v = .slice A ps.length c ∧ PerIn (newH n W') A ps ∧ PersQ J ts rep ps ∧ ps.length ≤ c:=by
 obtain ⟨ps,hl,hP⟩:=list_of (P:=fun k (p:PerD) => ∃ (h:k < ms.length),p.key = ms[k].key ∧ ms[k].vT = .slice p.na p.nos.length p.nc ∧ ms[k].vI = .slice p.ia p.ids.length p.ic ∧ p.nos = nos k ∧ p.ids = ids k ∧ Rw (newH n W') p.na 1 fI p.nos ∧ Rw (newH n W') p.ia 2 fId p.ids) ms.length (fun k hk => by
  obtain ⟨A1,c1,e1,_,r1⟩:=((hM.rowT hk).below hb).memN hn1
  obtain ⟨A2,c2,e2,_,r2⟩:=((hM.rowI hk).below hb).memN hn1
  exact ⟨⟨ms[k].key,A1,c1,nos k,A2,c2,ids k⟩,hk,rfl,e1,e2,rfl,rfl,r1,r2⟩)
 have hO2:Orow W' C 42 4 fPer v ps:=by
  show W'.ownsRow _ _ _ _ _ _
  rw [hl,← cells_eq (k:=4) (f:=fMem) (g:=fPer) hl.symm (fun i h1 h2 j hj => by
   obtain ⟨h,e0,e1,e2,-⟩:=hP i h2
   match j,hj with
   | 0,_ => show Value.int .i64 ms[i].key.kind = .int .i64 ps[i].key.kind;rw [e0]
   | 1,_ => show Value.string ms[i].key.text = .string ps[i].key.text;rw [e0]
   | 2,_ => exact e1
   | 3,_ => exact e2)]
  exact hO
 obtain ⟨A,c,rfl,hcl,hr⟩:=hO2.memN hn2
 refine ⟨A,c,ps,rfl,⟨hr,fun p hp => ?_⟩,⟨by rw [hl];exact hQ.len,fun k h h' => ?_,fun k h h' => ?_,fun k h h' => ?_⟩,hcl⟩
 ·obtain ⟨k,hk,rfl⟩:=List.getElem_of_mem hp
  obtain ⟨h,-,-,-,-,-,h1,h2⟩:=hP k hk
  exact ⟨h1,h2⟩
 ·obtain ⟨h1,e0,-⟩:=hP k h'
  rw [e0]
  exact hQ.key k h h1
 ·obtain ⟨h1,-,-,-,e3,-⟩:=hP k h'
  rw [e3]
  exact hQ.nos k h
 ·obtain ⟨h1,-,-,-,-,e4,-⟩:=hP k h'
  rw [e4]
  exact hQ.ids k h
def PersPost (r:RulD) (ts:List TchD) (w:World) (e:Ending) (w':World):Prop :=
 Below w.heap.size w w' ∧ ((bothE r ts ≠ 0 ∧ e = .returned (.tuple #[.slice none 0 0,.int .i64 (bothE r ts)])) ∨
  (bothE r ts = 0 ∧ ∃ (A:Option Addr) (c:Nat) (ps:List PerD) (rr:List Nat),e = .returned (.tuple #[.slice A ps.length c,.int .i64 0]) ∧ Uf (Share (JD r ts) ts) rr ∧ PerIn (wholeH w') A ps ∧ PersQ (JD r ts) ts (repN rr) ps ∧ ps.length ≤ c ∧ PerIn (newH w.heap.size w') A ps))
theorem both_zero {r:RulD} {ts:List TchD} (h:bothE r ts = 0):rulE r = 0 ∧ tchsE okT ts = 0:=by
 unfold bothE at h
 by_cases g:rulE r = 0
 ·rw [if_neg (by simpa using g)] at h
  exact ⟨g,h⟩
 ·rw [if_pos g] at h
  exact absurd h g
set_option maxHeartbeats 4000000 in
set_option maxRecDepth 100000 in
theorem Persons_any (H:Frz) (hU:UtfIn H) (hM:MLen H) (r:RulD) (A:Option Addr) (cap:Nat) (ts:List TchD) (w:World) (hH:H.In w) (hR:RulIn H r) (hT:TchIn H A ts) (hz:SzR r) (hl:ts.length ≤ 1000000) (hsz:∀ t ∈ ts,SzT t) (hfit:∀ t ∈ ts,∀ x ∈ t.ids,FitId x) :
  Calls Tryz.prog 14 #[.agg #[.slice r.ka r.kinds.length r.kc,.int .i64 r.most,.slice r.wa r.weaks.length r.wc,.slice r.sa r.surs.length r.sc],.slice A ts.length cap] w (PersPost r ts w):=by
 have z0:(w.alloc (.cells #[.slice r.ka r.kinds.length r.kc,.int .i64 r.most,.slice r.wa r.weaks.length r.wc,.slice r.sa r.surs.length r.sc] 60)).cell? ⟨w.heap.size,0,none⟩ = some (.slice r.ka r.kinds.length r.kc):=newc 0 rfl
 have z1:(w.alloc (.cells #[.slice r.ka r.kinds.length r.kc,.int .i64 r.most,.slice r.wa r.weaks.length r.wc,.slice r.sa r.surs.length r.sc] 60)).cell? ⟨w.heap.size,1,none⟩ = some (.int .i64 r.most):=newc 1 rfl
 have z2:(w.alloc (.cells #[.slice r.ka r.kinds.length r.kc,.int .i64 r.most,.slice r.wa r.weaks.length r.wc,.slice r.sa r.surs.length r.sc] 60)).cell? ⟨w.heap.size,2,none⟩ = some (.slice r.wa r.weaks.length r.wc):=newc 2 rfl
 have z3:(w.alloc (.cells #[.slice r.ka r.kinds.length r.kc,.int .i64 r.most,.slice r.wa r.weaks.length r.wc,.slice r.sa r.surs.length r.sc] 60)).cell? ⟨w.heap.size,3,none⟩ = some (.slice r.sa r.surs.length r.sc):=newc 3 rfl
 have HBN:=Lib.hid (new1 (w:=w) (.cells #[.slice r.ka r.kinds.length r.kc,.int .i64 r.most,.slice r.wa r.weaks.length r.wc,.slice r.sa r.surs.length r.sc] 60))
 have HIN:=Lib.hid (hH.below HBN.out)
 have HCB:=Lib.hid (fun W (hW:H.In W) => checkBoth_any H hU hM r A cap ts W hW hR hT hz hl hsz)
 have HR:=Lib.hid hR
 have HT:=Lib.hid hT
 have HF:=Lib.hid hfit
 have HPP:Hid (∀ e w',Below w.heap.size w w' → ((bothE r ts ≠ 0 ∧ e = .returned (.tuple #[.slice none 0 0,.int .i64 (bothE r ts)])) ∨
  (bothE r ts = 0 ∧ ∃ (A:Option Addr) (c:Nat) (ps:List PerD) (rr:List Nat),e = .returned (.tuple #[.slice A ps.length c,.int .i64 0]) ∧ Uf (Share (JD r ts) ts) rr ∧ PerIn (wholeH w') A ps ∧ PersQ (JD r ts) ts (repN rr) ps ∧ ps.length ≤ c ∧ PerIn (newH w.heap.size w') A ps)) → PersPost r ts w e w'):=fun e w' h1 h2 => ⟨h1,h2⟩
 have HRR:Hid (bothE r ts = 0 → RightR r ∧ ts.length ≤ 2000 ∧ ∀ t ∈ ts,RightT t):=fun h => ⟨(rul_right (both_zero h).1).1,(tchs_right (both_zero h).2).1,(tchs_right (both_zero h).2).2.1⟩
 clear hU hM hH hR hT hz hsz hfit
 go_enter Tryz.func14,Tryz.ntmps14
 go_wp2_with fail
 refine (HCB.out _ HIN.out).mono ?_
 rintro e W2 ⟨rfl,hb2⟩
 have HB2:=Lib.hid (HBN.out.trans (hb2.mono HBN.out.size))
 have HIN2:=Lib.hid (HIN.out.below hb2)
 have y0:=lift_cell z0 W2 hb2
 have y1:=lift_cell z1 W2 hb2
 have y2:=lift_cell z2 W2 hb2
 have y3:=lift_cell z3 W2 hb2
 clear hb2 z0 z1 z2 z3
 generalize bothE r ts = ie at HPP HRR ⊢
 by_cases g:ie = 0
 ·have k3:(ie != 0) = false:=by simpa using g
  obtain ⟨hr,hl2,ht2⟩:=HRR.out g
  have HG:=Lib.hid g
  have HNG:=Lib.hid (newGroup_any H r A cap ts W2 HIN2.out HT.out (by omega) (fun t ht => ⟨by have:=(ht2 t ht).len;omega,HF.out t ht,rising_ne (ht2 t ht).ids⟩))
  have HFT:Hid (∀ t ∈ ts,(∀ x ∈ t.ids,FitId x) ∧ 0 < t.ids.length ∧ t.ids.length ≤ 20):=fun t ht => ⟨HF.out t ht,by have:=(ht2 t ht).len;omega,by have:=(ht2 t ht).len;omega⟩
  have HRI:=Lib.hid hr
  clear g HRR hr ht2
  go_wp2_with fail
  refine HNG.out.mono ?_
  rintro e W3 ⟨gp,bm,nm,m,rfl,hS,hgo,hgp⟩
  have HB3:=Lib.hid (HB2.out.trans (hS.bel.mono HB2.out.size))
  obtain ⟨hle,hG⟩:=GrpIn.of hS hgo HIN2.out HR.out HT.out
  have HME:=Lib.hid (members_any hG HRI.out.ws (by have:=HRI.out.wl;omega) (by have:=HRI.out.kl;omega) (by omega) HFT.out W3 (wholeH_in W3))
  clear hS hgo hle hG HNG y0 y1 y2 y3
  go_wp2_with fail
  refine HME.out.mono ?_
  rintro e W4 ⟨vout,B,rr,ms,nos,ats,ids,rfl,huf,hMS,hQ⟩
  have HB4:=Lib.hid (HB3.out.trans (hMS.bel.mono HB3.out.size))
  obtain ⟨A4,c4,hv4,_⟩:=hMS.out.slice
  have hmsl:ms.length ≤ 100000:=by have h1:=hQ.len;have h2:=rts_le (repN rr) ts.length;omega
  have HPR:=Lib.hid (persons_row B vout ms hmsl (fun d hd => by
   obtain ⟨k,hk,rfl⟩:=List.getElem_of_mem hd
   obtain ⟨A1,c1,e1,_⟩:=(hMS.rowT hk).slice
   obtain ⟨A2,c2,e2,_⟩:=(hMS.rowI hk).slice
   obtain ⟨A3,c3,e3,_⟩:=(hMS.rowA hk).slice
   exact ⟨⟨_,_,_,e1⟩,⟨_,_,_,e2⟩,⟨_,_,_,e3⟩⟩) W4 hMS.out)
  have HMS:=Lib.hid hMS
  have HQ:=Lib.hid hQ
  have HUF:=Lib.hid huf
  subst hv4
  clear hMS hQ huf HME
  go_wp2_with fail
  refine HPR.out.mono ?_
  rintro e W5 ⟨v,rfl,hO,hb5⟩
  have HB5:=Lib.hid (HB4.out.trans (hb5.mono HB4.out.size))
  obtain ⟨A5,c5,ps,rfl,hp1,hp2,hp3⟩:=pers_of HMS.out HQ.out hO hb5 (n:=w.heap.size) (Nat.le_trans HB3.out.size HMS.out.ge) HB4.out.size
  have HF5:=Lib.hid (HPP.out _ W5 HB5.out (Or.inr ⟨HG.out,A5,c5,ps,rr,rfl,HUF.out,hp1.le (newH_le _ _),hp2,hp3,hp1⟩))
  clear hO hb5 hp1 hp2 HPR
  go_wp2_with fail
  exact bodyPost_ret (by kernel_rfl) rfl HF5.out
 ·have k3:(ie != 0) = true:=by simpa using g
  have HF5:=Lib.hid (HPP.out _ W2 HB2.out (Or.inl ⟨g,rfl⟩))
  clear g
  go_wp2_with fail
  exact bodyPost_ret (by kernel_rfl) rfl HF5.out
open Go.RowKit
open Go.RowKit
theorem in_cls {rep:Nat → Nat} {n r q:Nat}:q ∈ cls rep n r ↔ q < n ∧ rep q = r:=by
 unfold cls
 rw [List.mem_filter,List.mem_range,beq_iff_eq]
open Go.RowKit
def runeOf (s:ByteArray):Int:=if (Lib.decodeGo s).1 = 65533 ∧ (Lib.decodeGo s).2 = 1 then -1 - ((s.data.toList.headD 0).toNat:Int) else ((Lib.decodeGo s).1:Int)
def restOf (s:ByteArray):ByteArray:=s.extract (Lib.decodeGo s).2 s.size
def ptF:Nat → ByteArray → List Int
 | 0,_ => []
 | n + 1,s => if s.size = 0 then [] else runeOf s :: ptF n (restOf s)
def ptS (s:ByteArray):List Int:=ptF s.size s
theorem decN_bound (n b0 b1 b2 b3:Nat) (hn:1 ≤ n) (h0:b0 < 256):1 ≤ (Lib.decodeN n b0 b1 b2 b3).2 ∧ (Lib.decodeN n b0 b1 b2 b3).2 ≤ n ∧ (Lib.decodeN n b0 b1 b2 b3).1 ≤ 1114111:=by
 unfold Lib.decodeN
 repeat' split
 all_goals (simp only;omega)
theorem dec_bound {s:ByteArray} (h:0 < s.size):1 ≤ (Lib.decodeGo s).2 ∧ (Lib.decodeGo s).2 ≤ s.size ∧ (Lib.decodeGo s).1 ≤ 1114111:=by
 unfold Lib.decodeGo
 rw [if_neg (by omega),Lib.decode_at]
 exact decN_bound (s.size - 0) _ _ _ _ (by omega) (UInt8.toNat_lt _)
theorem restOf_size {s:ByteArray} (h:0 < s.size):(restOf s).size < s.size ∧ (restOf s).size = s.size - (Lib.decodeGo s).2:=by
 have:=dec_bound h
 unfold restOf
 rw [ByteArray.size_extract]
 omega
theorem ptF_more:∀ (n m:Nat) (s:ByteArray),s.size ≤ n → s.size ≤ m → ptF n s = ptF m s
 | 0,0,s,_,_ => rfl
 | 0,m + 1,s,h,_ => by unfold ptF;rw [if_pos (by omega)]
 | n + 1,0,s,_,h => by unfold ptF;rw [if_pos (by omega)]
 | n + 1,m + 1,s,h1,h2 => by
  unfold ptF
  by_cases h:s.size = 0
  ·rw [if_pos h,if_pos h]
  ·rw [if_neg h,if_neg h]
   have:=(restOf_size (s:=s) (by omega)).1
   rw [ptF_more n m (restOf s) (by omega) (by omega)]
theorem ptS_nil {s:ByteArray} (h:s.size = 0):ptS s = []:=by
 unfold ptS
 rw [h]
 rfl
theorem ptS_step {s:ByteArray} (h:0 < s.size):ptS s = runeOf s :: ptS (restOf s):=by
 obtain ⟨n,hn⟩:∃ n,s.size = n + 1:=⟨s.size - 1,by omega⟩
 have h2:=(restOf_size h).1
 unfold ptS
 rw [hn]
 conv => lhs;unfold ptF
 rw [if_neg (by omega),ptF_more n (restOf s).size (restOf s) (by omega) (Nat.le_refl _)]
theorem ptF_len:∀ (n:Nat) (s:ByteArray),(ptF n s).length ≤ n
 | 0,s => by simp [ptF]
 | n + 1,s => by
  unfold ptF
  split
  ·simp
  ·have:=ptF_len n (restOf s)
   simp only [List.length_cons]
   omega
theorem ptS_len (s:ByteArray):(ptS s).length ≤ s.size:=ptF_len _ s
theorem runeOf_bound {s:ByteArray} (h:0 < s.size):-300 ≤ runeOf s ∧ runeOf s ≤ 1114111:=by
 have:=dec_bound h
 have:=(s.data.toList.headD 0).toNat_lt
 unfold runeOf
 split <;> omega
open Go.RowKit
def lowF (m:MsD):Int:=if m.how = 1 then 0 else 1
def highF (m:MsD):Int:=if m.how = 1 then 0 else 20
structure RightM (m:MsD):Prop where
 name:isKey m.name = true
 how:1 ≤ m.how ∧ m.how ≤ 3
 far:lowF m ≤ m.far ∧ m.far ≤ highF m
 pts:-1000 ≤ m.pts ∧ m.pts ≤ 1000
end Go.Proofs.YtcncifmanodabaaGreatDoor
