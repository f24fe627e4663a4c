/- Texts of this claim, put together: Sk, ChkR, ChkS. -/
import Derived.Test.YtbidhpgjmcedaaaGreatDoorGAQ
import Derived.Test.YtbidhpgjmcedaaaGreatDoorGAP
namespace Go.Proofs.YtbidhpgjmcedaaaGreatDoor
set_option linter.unusedVariables false
open Go.RowKit
structure Sk (w : World) (bs K : Nat) (H : Frz) (W W' : World) : Prop where
 lw : Lw w bs K H W'
 g : W.grownBy W' (some bs)
section
variable {w W W' W2 : World} {bs K K' : Nat} {H : Frz}
theorem Sk.start (h : Lw w bs K H W) : Sk w bs K H W W:=⟨h,World.grownBy.refl _ _⟩
theorem Sk.asked (h : Sk w bs K H W W') (L : Lw w bs K' H W2) (gq : W'.grownBy W2 (some bs)) : Sk w bs K' H W W2:=⟨L,h.g.trans gq⟩
theorem Sk.below (h : Sk w bs K H W W') (hb : Below W'.heap.size W' W2) : Sk w bs K H W W2 :=
 ⟨h.lw.call hb,⟨hb.os.trans h.g.os,hb.tape.trans h.g.tape,hb.output.trans h.g.output,Nat.le_trans h.g.size hb.size,fun k hk hne => (hb.block k (Nat.lt_of_lt_of_le hk h.g.size)).trans (h.g.block k hk hne)⟩⟩
theorem Sk.alloc (h : Sk w bs K H W W') (o : Obj) : Sk w bs K H W (W'.alloc o):=h.below ((Below.refl _ _).alloc (Nat.le_refl _) _)
end
theorem rep2_any (x : UInt8) (z : Int) (c : Nat) (hz : z = (c : Int)) (hc : c ≤ 1000) (W : World) : Calls Tryz.prog 71 #[.string ⟨#[x]⟩,.int .i64 z] W fun e w' => ∃ s : ByteArray,e = .returned (.string s) ∧ s.size = c ∧ Below W.heap.size W w':=by
 subst hz
 refine (Tryz.strings_Repeat ⟨#[x]⟩ c W (by omega) (by show 1 * c ≤ _; omega)).mono ?_
 rintro e w' ⟨h,b⟩
 refine ⟨_,h,?_,b⟩
 show (Lib.repeatL [x] c).toArray.size = c
 simp [Lib.repeatL_length]
theorem sizeK {s : ByteArray} {l : List ByteArray} (h : s ∈ l) (hl : l.all (fun x => decide (x.size ≤ 1000)) = true) : s.size ≤ 1000:=by
 have:=List.all_eq_true.1 hl s h
 simpa using this
open Go.RowKit
theorem src1_at {ss : List ByteArray} {i : Nat} (h : i < ss.length) : src1 ss i = if isKey ss[i] = false then 5 else if (ss.take i).any (eqS ss[i]) = true then 6 else 0:=by
 unfold src1
 rw [List.getElem?_eq_getElem h]
theorem any_step {ss : List ByteArray} {s : ByteArray} {q : Nat} (hq : q < ss.length) (h : (ss.take q).any (eqS s) = false) (h2 : (ss[q].toList == s.toList) = false) : (ss.take (q + 1)).any (eqS s) = false:=by
 rw [List.take_succ_eq_append_getElem hq,List.any_append,h]
 simp only [Bool.false_or,List.any_cons,List.any_nil,Bool.or_false]
 unfold eqS
 rw [Bool.beq_comm]
 exact h2
theorem any_hit {ss : List ByteArray} {s : ByteArray} {q i : Nat} (hq : q < i) (hi : i < ss.length) (h2 : (ss[q].toList == s.toList) = true) : (ss.take i).any (eqS s) = true:=by
 rw [List.any_eq_true]
 refine ⟨ss[q],?_,?_⟩
 ·rw [List.mem_take_iff_getElem]
  exact ⟨q,by omega,rfl⟩
 ·unfold eqS
  rw [Bool.beq_comm]
  exact h2
set_option maxHeartbeats 4000000 in
set_option maxRecDepth 100000 in
theorem checkSources_any (H : Frz) (s : SurD) (w : World) (hH : H.In w) (hR : Rw H s.sa 1 fS s.srcs) (hl : s.srcs.length ≤ 1000000) (hcap : s.srcs.length ≤ s.sc) (hsz : ∀ x ∈ s.srcs,x.size ≤ 1000000) :
  Calls Tryz.prog 252 #[.agg #[.string s.name,.int .i64 s.how,.slice s.sa s.srcs.length s.sc]] w fun e w' => e = .returned (.int .i64 (srcsE s)) ∧ Below w.heap.size w w':=by
 obtain ⟨name,how,sa,sc,srcs⟩:=s
 dsimp only at *
 have HB:=Lib.hid (new1 (w:=w) (.cells #[.string name,.int .i64 how,.slice sa srcs.length sc] 210))
 have z1 : (w.alloc (.cells #[.string name,.int .i64 how,.slice sa srcs.length sc] 210)).cell? ⟨w.heap.size,1,none⟩ = some (.int .i64 how):=newc 1 rfl
 have z2 : (w.alloc (.cells #[.string name,.int .i64 how,.slice sa srcs.length sc] 210)).cell? ⟨w.heap.size,2,none⟩ = some (.slice sa srcs.length sc):=newc 2 rfl
 have HIN:=Lib.hid (hH.below HB.out)
 have HR:=Lib.hid hR
 have HS:=Lib.hid hsz
 clear hR hH hsz
 by_cases h0 : 0 < srcs.length
 ·by_cases hw : how = 5
  ·have d2 : (how != 5) = false:=by simpa using hw
   have HV1 : Hid (srcsE ⟨name,how,sa,sc,srcs⟩ = if 20 < srcs.length then 2 else fstErr (src1 srcs) srcs.length):=by show _ = _; unfold srcsE; rw [if_neg (fun c => c.2 hw)]
   clear hw
   by_cases hlong : 20 < srcs.length
   ·have hv : Hid (srcsE ⟨name,how,sa,sc,srcs⟩ = 2):=by rw [if_pos hlong] at HV1; exact HV1
    go_enter Tryz.func252,Tryz.ntmps252
    go_wp2_with fail
    go_ret
    exact ⟨ret_int hv.out.symm,HB.out⟩
   rw [if_neg hlong] at HV1
   go_enter Tryz.func252,Tryz.ntmps252
   go_wp2_with fail
   clear h0
   go_loopw [25] (fun t wr => ∃ i : Nat,i ≤ srcs.length ∧ t = .int .i64 i ∧ Hid (fstErr (src1 srcs) i = 0) ∧ Hid (wr = w.alloc (.cells #[.string name,.int .i64 how,.slice sa srcs.length sc] 210))) (fun t _ => srcs.length - (intOf t).toNat)
   case atStart => exact ⟨0,by omega,rfl,rfl,rfl⟩
   case round =>
    obtain ⟨i,hi,rfl,h0,hwr⟩:=hrel
    have hwr:=hwr.out
    subst hwr
    generalize w.alloc (.cells #[.string name,.int .i64 how,.slice sa srcs.length sc] 210) = W1 at *
    by_cases hlt : i < srcs.length
    ·obtain ⟨b,off,rfl,hbl,hc⟩:=HR.out.at_ HIN.out hlt (by omega)
     have c0 : W1.cell? ⟨b,off + i,none⟩ = some (.string srcs[i]):=by simpa [fS] using hc 0 (by omega)
     have HAT:=Lib.hid (src1_at hlt)
     have HBAD : Hid (∀ n,src1 srcs i = n → n ≠ 0 → srcsE ⟨name,how,some ⟨b,off,none⟩,sc,srcs⟩ = n):=fun n h1 h2 => HV1.out.trans ((fstErr_bad hlt h0.out (by rw [h1]; exact h2)).trans h1)
     have HNX : Hid (src1 srcs i = 0 → fstErr (src1 srcs) (i + 1) = 0):=fun h1 => fstErr_next h0.out h1
     have hks:=HS.out _ (List.getElem_mem hlt)
     have HCQ : Hid (∀ q (hq : q < srcs.length),W1.cell? ⟨b,off + q,none⟩ = some (.string srcs[q])):=fun q hq => by
      obtain ⟨b',off',hA',hbl',hc'⟩:=HR.out.at_ HIN.out hq (by omega)
      simp only [Option.some.injEq,Addr.mk.injEq] at hA'
      obtain ⟨rfl,rfl,_⟩:=hA'
      simpa [fS] using hc' 0 (by omega)
     have HHIT : Hid (∀ q (hq : q < i) (hq2 : q < srcs.length),(srcs[q].toList == srcs[i].toList) = true → (srcs.take i).any (eqS srcs[i]) = true):=fun q hq hq2 h => any_hit hq hlt h
     have HSTEP : Hid (∀ q (hq2 : q < srcs.length),(srcs.take q).any (eqS srcs[i]) = false → (srcs[q].toList == srcs[i].toList) = false → (srcs.take (q + 1)).any (eqS srcs[i]) = false):=fun q hq2 h h2 => any_step hq2 h h2
     clear hc
     generalize srcs[i] = d at *
     go_wp2_with fail
     refine (isKey_any d _ (by omega)).mono ?_
     rintro e w' ⟨rfl,rfl⟩
     generalize isKey d = k1 at HAT
     cases k1 with
     | false =>
      have hv:=Lib.hid (HBAD.out 5 (HAT.out.trans (if_pos rfl)) (by omega))
      go_wp2_with fail
      go_ret
      exact ⟨ret_int hv.out.symm,HB.out⟩
     | true =>
      have HA1:=Lib.hid (HAT.out.trans (if_neg (by simp)))
      clear HAT
      have hisc : (i : Int) ≤ sc:=by omega
      have hisc2 : i ≤ sc:=by omega
      go_wp2_with fail
      go_loopw [38] (fun t wr => ∃ q : Nat,q ≤ i ∧ t = .int .i64 q ∧ Hid ((srcs.take q).any (eqS d) = false) ∧ Hid (wr = W1)) (fun t _ => i - (intOf t).toNat)
      case atStart => exact ⟨0,by omega,rfl,rfl,rfl⟩
      case round =>
       obtain ⟨q,hq,rfl,h1,hwr⟩:=hrel
       have hwr:=hwr.out
       subst hwr
       by_cases hlt2 : q < i
       ·have hq2 : q < srcs.length:=by omega
        have c1:=HCQ.out q hq2
        have HH2:=Lib.hid (HHIT.out q hlt2 hq2)
        have HS2:=Lib.hid (HSTEP.out q hq2 h1.out)
        generalize srcs[q] = x at *
        cases hx : (x.toList == d.toList) with
        | true =>
         have hv:=Lib.hid (HBAD.out 6 (HA1.out.trans (if_pos (HH2.out hx))) (by omega))
         go_wp2_with fail
         go_ret
         exact ⟨ret_int hv.out.symm,HB.out⟩
        | false =>
         have hok:=Lib.hid (HS2.out hx)
         go_wp2_with fail
         go_roundw
         case rel => exact ⟨q + 1,by omega,by go_num,hok,(by first | exact rfl | exact trivial)⟩
         case measure => simp [intOf]; omega
       ·have hie : q = i:=by omega
        subst hie
        have hok:=Lib.hid (HNX.out (HA1.out.trans (if_neg (by rw [h1.out]; simp))))
        go_wp2_with fail
        go_roundw
        case rel => exact ⟨q + 1,by omega,by go_num,hok,(by first | exact rfl | exact trivial)⟩
        case measure => simp [intOf]; omega
    ·have hie : i = srcs.length:=by omega
     subst hie
     have hv:=Lib.hid (HV1.out.trans h0.out)
     go_wp2_with fail
     refine bodyPost_ret (v:=.int .i64 0) (by kernel_rfl) rfl ?_
     exact ⟨ret_int hv.out.symm,HB.out⟩
  ·have d2 : (how != 5) = true:=by simpa using hw
   have hv : Hid (srcsE ⟨name,how,sa,sc,srcs⟩ = 3):=by show _ = _; unfold srcsE; rw [if_pos ⟨h0,hw⟩]
   clear hw
   go_enter Tryz.func252,Tryz.ntmps252
   go_wp2_with fail
   go_ret
   exact ⟨ret_int hv.out.symm,HB.out⟩
 ·have HV1 : Hid (srcsE ⟨name,how,sa,sc,srcs⟩ = if 20 < srcs.length then 2 else fstErr (src1 srcs) srcs.length):=by show _ = _; unfold srcsE; rw [if_neg (fun c => h0 c.1)]
  by_cases hlong : 20 < srcs.length
  ·exact absurd hlong (by omega)
  rw [if_neg hlong] at HV1
  go_enter Tryz.func252,Tryz.ntmps252
  go_wp2_with fail
  clear h0
  go_loopw [25] (fun t wr => ∃ i : Nat,i ≤ srcs.length ∧ t = .int .i64 i ∧ Hid (fstErr (src1 srcs) i = 0) ∧ Hid (wr = w.alloc (.cells #[.string name,.int .i64 how,.slice sa srcs.length sc] 210))) (fun t _ => srcs.length - (intOf t).toNat)
  case atStart => exact ⟨0,by omega,rfl,rfl,rfl⟩
  case round =>
   obtain ⟨i,hi,rfl,h0,hwr⟩:=hrel
   have hwr:=hwr.out
   subst hwr
   generalize w.alloc (.cells #[.string name,.int .i64 how,.slice sa srcs.length sc] 210) = W1 at *
   by_cases hlt : i < srcs.length
   ·obtain ⟨b,off,rfl,hbl,hc⟩:=HR.out.at_ HIN.out hlt (by omega)
    have c0 : W1.cell? ⟨b,off + i,none⟩ = some (.string srcs[i]):=by simpa [fS] using hc 0 (by omega)
    have HAT:=Lib.hid (src1_at hlt)
    have HBAD : Hid (∀ n,src1 srcs i = n → n ≠ 0 → srcsE ⟨name,how,some ⟨b,off,none⟩,sc,srcs⟩ = n):=fun n h1 h2 => HV1.out.trans ((fstErr_bad hlt h0.out (by rw [h1]; exact h2)).trans h1)
    have HNX : Hid (src1 srcs i = 0 → fstErr (src1 srcs) (i + 1) = 0):=fun h1 => fstErr_next h0.out h1
    have hks:=HS.out _ (List.getElem_mem hlt)
    have HCQ : Hid (∀ q (hq : q < srcs.length),W1.cell? ⟨b,off + q,none⟩ = some (.string srcs[q])):=fun q hq => by
     obtain ⟨b',off',hA',hbl',hc'⟩:=HR.out.at_ HIN.out hq (by omega)
     simp only [Option.some.injEq,Addr.mk.injEq] at hA'
     obtain ⟨rfl,rfl,_⟩:=hA'
     simpa [fS] using hc' 0 (by omega)
    have HHIT : Hid (∀ q (hq : q < i) (hq2 : q < srcs.length),(srcs[q].toList == srcs[i].toList) = true → (srcs.take i).any (eqS srcs[i]) = true):=fun q hq hq2 h => any_hit hq hlt h
    have HSTEP : Hid (∀ q (hq2 : q < srcs.length),(srcs.take q).any (eqS srcs[i]) = false → (srcs[q].toList == srcs[i].toList) = false → (srcs.take (q + 1)).any (eqS srcs[i]) = false):=fun q hq2 h h2 => any_step hq2 h h2
    clear hc
    generalize srcs[i] = d at *
    go_wp2_with fail
    refine (isKey_any d _ (by omega)).mono ?_
    rintro e w' ⟨rfl,rfl⟩
    generalize isKey d = k1 at HAT
    cases k1 with
    | false =>
     have hv:=Lib.hid (HBAD.out 5 (HAT.out.trans (if_pos rfl)) (by omega))
     go_wp2_with fail
     go_ret
     exact ⟨ret_int hv.out.symm,HB.out⟩
    | true =>
     have HA1:=Lib.hid (HAT.out.trans (if_neg (by simp)))
     clear HAT
     have hisc : (i : Int) ≤ sc:=by omega
     have hisc2 : i ≤ sc:=by omega
     go_wp2_with fail
     go_loopw [38] (fun t wr => ∃ q : Nat,q ≤ i ∧ t = .int .i64 q ∧ Hid ((srcs.take q).any (eqS d) = false) ∧ Hid (wr = W1)) (fun t _ => i - (intOf t).toNat)
     case atStart => exact ⟨0,by omega,rfl,rfl,rfl⟩
     case round =>
      obtain ⟨q,hq,rfl,h1,hwr⟩:=hrel
      have hwr:=hwr.out
      subst hwr
      by_cases hlt2 : q < i
      ·have hq2 : q < srcs.length:=by omega
       have c1:=HCQ.out q hq2
       have HH2:=Lib.hid (HHIT.out q hlt2 hq2)
       have HS2:=Lib.hid (HSTEP.out q hq2 h1.out)
       generalize srcs[q] = x at *
       cases hx : (x.toList == d.toList) with
       | true =>
        have hv:=Lib.hid (HBAD.out 6 (HA1.out.trans (if_pos (HH2.out hx))) (by omega))
        go_wp2_with fail
        go_ret
        exact ⟨ret_int hv.out.symm,HB.out⟩
       | false =>
        have hok:=Lib.hid (HS2.out hx)
        go_wp2_with fail
        go_roundw
        case rel => exact ⟨q + 1,by omega,by go_num,hok,(by first | exact rfl | exact trivial)⟩
        case measure => simp [intOf]; omega
      ·have hie : q = i:=by omega
       subst hie
       have hok:=Lib.hid (HNX.out (HA1.out.trans (if_neg (by rw [h1.out]; simp))))
       go_wp2_with fail
       go_roundw
       case rel => exact ⟨q + 1,by omega,by go_num,hok,(by first | exact rfl | exact trivial)⟩
       case measure => simp [intOf]; omega
   ·have hie : i = srcs.length:=by omega
    subst hie
    have hv:=Lib.hid (HV1.out.trans h0.out)
    go_wp2_with fail
    refine bodyPost_ret (v:=.int .i64 0) (by kernel_rfl) rfl ?_
    exact ⟨ret_int hv.out.symm,HB.out⟩
open Go.RowKit
theorem sur1_at {us : List SurD} {i : Nat} (h : i < us.length) : sur1 us i = if isKey us[i].name = false then 5 else if ¬ (1 ≤ us[i].how ∧ us[i].how ≤ 7) then 4 else if srcsE us[i] ≠ 0 then srcsE us[i] else if 0 < i ∧ 0 ≤ cmpS (us.getD (i - 1) us[i]).name us[i].name then 7 else 0:=by
 unfold sur1
 rw [List.getElem?_eq_getElem h]
def SzS (s : SurD) : Prop:=s.name.size ≤ 1000000 ∧ s.srcs.length ≤ 1000000 ∧ s.srcs.length ≤ s.sc ∧ ∀ x ∈ s.srcs,x.size ≤ 1000000
set_option maxHeartbeats 4000000 in
set_option maxRecDepth 100000 in
theorem checkSurvive_any (H : Frz) (A : Option Addr) (cap : Nat) (us : List SurD) (w : World) (hH : H.In w) (hR : Rw H A 3 fSur us) (hX : ∀ x ∈ us,Rw H x.sa 1 fS x.srcs) (hl : us.length ≤ 1000000) (hsz : ∀ s ∈ us,SzS s) :
  Calls Tryz.prog 190 #[.slice A us.length cap] w fun e w' => e = .returned (.int .i64 (sursE us)) ∧ Below w.heap.size w w':=by
 have HR:=Lib.hid hR
 have HH:=Lib.hid hH
 have HS:=Lib.hid hsz
 have HCV:=Lib.hid (fun s (hs : s ∈ us) W (hW : H.In W) => checkSources_any H s W hW (hX s hs) (hsz s hs).2.1 (hsz s hs).2.2.1 (hsz s hs).2.2.2)
 clear hR hH hsz hX
 by_cases hlong : 30 < us.length
 ·have h2 : decide ((30 : Int) < us.length) = true:=by simp; omega
  have hv : Hid (sursE us = 2):=by show _ = _; unfold sursE; rw [if_pos hlong]
  clear hlong
  go_enter Tryz.func190,Tryz.ntmps190
  go_wp2_with fail
  go_ret
  exact ⟨ret_int hv.out.symm,Below.refl _ _⟩
 ·have h2 : decide ((30 : Int) < us.length) = false:=by simp; omega
  have HV : Hid (sursE us = fstErr (sur1 us) us.length):=by show _ = _; unfold sursE; rw [if_neg hlong]
  clear hlong
  go_enter Tryz.func190,Tryz.ntmps190
  go_wp2_with fail
  go_loopw [11] (fun t wr => ∃ i : Nat,i ≤ us.length ∧ t = .int .i64 i ∧ Hid (fstErr (sur1 us) i = 0) ∧ Hid (Below w.heap.size w wr)) (fun t _ => us.length - (intOf t).toNat)
  case atStart => exact ⟨0,by omega,rfl,rfl,Below.refl _ _⟩
  case round =>
   obtain ⟨i,hi,rfl,h0,hb⟩:=hrel
   by_cases hlt : i < us.length
   ·have hin:=HH.out.below hb.out
    obtain ⟨b,off,hA,hbl,hc⟩:=HR.out.at_ hin hlt (by omega)
    have hprev : Hid (∀ p,i = p + 1 → ∀ W',Below wr.heap.size wr W' → W'.cell? ⟨b,off + p * 3,none⟩ = some (.string (us.getD (i - 1) us[i]).name)):=by
     rintro p rfl W' hW'
     have hp : p < us.length:=by omega
     obtain ⟨b',off',hA',hbl',hc'⟩:=HR.out.at_ hin hp (by omega)
     rw [hA] at hA'
     simp only [Option.some.injEq,Addr.mk.injEq] at hA'
     obtain ⟨rfl,rfl,_⟩:=hA'
     rw [Nat.add_sub_cancel,List.getD_eq_getElem?_getD,List.getElem?_eq_getElem hp,Option.getD_some]
     exact lift_cell (hc' 0 (by omega)) W' hW'
    subst hA
    have c0 : wr.cell? ⟨b,off + i * 3,none⟩ = some (.string us[i].name):=hc 0 (by omega)
    have c1 : wr.cell? ⟨b,off + i * 3 + 1,none⟩ = some (.int .i64 us[i].how):=hc 1 (by omega)
    have c2 : wr.cell? ⟨b,off + i * 3 + 2,none⟩ = some (.slice us[i].sa us[i].srcs.length us[i].sc):=hc 2 (by omega)
    have HAT:=Lib.hid (sur1_at hlt)
    have HBAD : Hid (∀ n,sur1 us i = n → n ≠ 0 → sursE us = n):=fun n h1 h2 => HV.out.trans ((fstErr_bad hlt h0.out (by rw [h1]; exact h2)).trans h1)
    have HNX : Hid (sur1 us i = 0 → fstErr (sur1 us) (i + 1) = 0):=fun h1 => fstErr_next h0.out h1
    have hks:=(HS.out _ (List.getElem_mem hlt)).1
    have HCD:=Lib.hid (HCV.out _ (List.getElem_mem hlt))
    clear hc
    generalize (us.getD (i - 1) us[i]).name = pn at *
    generalize us[i] = d at *
    have z0 : (wr.alloc (.cells #[.string d.name,.int .i64 d.how,.slice d.sa d.srcs.length d.sc] 210)).cell? ⟨wr.heap.size,0,none⟩ = some (.string d.name):=newc 0 rfl
    have z1 : (wr.alloc (.cells #[.string d.name,.int .i64 d.how,.slice d.sa d.srcs.length d.sc] 210)).cell? ⟨wr.heap.size,1,none⟩ = some (.int .i64 d.how):=newc 1 rfl
    have z2 : (wr.alloc (.cells #[.string d.name,.int .i64 d.how,.slice d.sa d.srcs.length d.sc] 210)).cell? ⟨wr.heap.size,2,none⟩ = some (.slice d.sa d.srcs.length d.sc):=newc 2 rfl
    have HBN:=Lib.hid (new1 (w:=wr) (.cells #[.string d.name,.int .i64 d.how,.slice d.sa d.srcs.length d.sc] 210))
    go_upto_region 6 with (fail)
    clear c0 c1 c2
    generalize wr.alloc (.cells #[.string d.name,.int .i64 d.how,.slice d.sa d.srcs.length d.sc] 210) = W1 at *
    have HB1:=Lib.hid (hb.out.trans (HBN.out.mono hb.out.size))
    have HBN2:=Lib.hid HBN.out
    have HIN1:=Lib.hid (hin.below HBN.out)
    clear hb h0 HBN hin
    go_wp2_with fail
    refine (isKey_any d.name _ (by omega)).mono ?_
    rintro e w' ⟨rfl,rfl⟩
    generalize isKey d.name = k1 at HAT
    cases k1 with
    | false =>
     have hv:=Lib.hid (HBAD.out 5 (HAT.out.trans (if_pos rfl)) (by omega))
     go_wp2_with fail
     go_ret
     exact ⟨ret_int hv.out.symm,HB1.out⟩
    | true =>
     have HA1:=Lib.hid (HAT.out.trans (if_neg (by simp)))
     clear HAT
     go_wp2_with fail
     refine (pwithin_any _ _ _ _).mono ?_
     rintro e w9 ⟨rfl,rfl⟩
     rw [within_dec]
     by_cases g2 : 1 ≤ d.how ∧ d.how ≤ 7
     rotate_left
     ·have hv:=Lib.hid (HBAD.out 4 (HA1.out.trans (if_pos g2)) (by omega))
      rw [decide_eq_false g2]
      clear g2
      go_wp2_with fail
      go_ret
      exact ⟨ret_int hv.out.symm,HB1.out⟩
     have HA2:=Lib.hid (HA1.out.trans (if_neg (fun c => c g2)))
     rw [decide_eq_true g2]
     clear g2 HA1
     have J0:=lift_cell z0
     go_wp2_with fail
     refine (HCD.out _ HIN1.out).mono ?_
     rintro e W2 ⟨rfl,hb2⟩
     have HB2:=Lib.hid (HB1.out.trans (hb2.mono HB1.out.size))
     have HIN2:=Lib.hid (HIN1.out.below hb2)
     have J2 : ∀ W,Below W2.heap.size W2 W → W.cell? ⟨wr.heap.size,0,none⟩ = some (.string d.name):=fun W hW => J0 W (hb2.trans (hW.mono hb2.size))
     have HBN3:=Lib.hid (HBN2.out.trans (hb2.mono HBN2.out.size))
     generalize srcsE d = ie at HA2 ⊢
     clear hb2 z0 z1 z2 J0
     by_cases g3 : ie = 0
     ·have k3 : (ie != 0) = false:=by simpa using g3
      have HA3:=Lib.hid (HA2.out.trans (if_neg (by simpa using g3)))
      clear g3 HA2
      go_wp2_with fail
      rcases Nat.eq_zero_or_pos i with h0 | hpos
      ·have d2 : decide ((0 : Int) < (i : Int)) = false:=by simp; omega
       have hok:=Lib.hid (HNX.out (HA3.out.trans (if_neg (by omega))))
       clear h0
       (refine wp_region_det 12 45 (fun W => Below (W2).heap.size (W2) W) (by kernel_rfl) (by kernel_rfl) (by rfl) (Below.refl _ _).drew ?_; simp only [List.take_succ_cons,List.take_zero,List.drop_succ_cons,List.drop_zero])
       iterate 1 (refine detSeq_op rfl ?_ (fun W hW => ?_) ?_; rotate_left; (focus simp only [OpV]; go_simp; first | exact rfl | exact ⟨rfl,hW⟩))
       (refine detSeq_op rfl (.bool false) (fun W hW => ?_) ?_; focus (simp only [OpV]; go_simp; try (first | exact rfl | exact hW | (have h9:=d2; simp at h9; omega))))
       iterate 1 (refine detSeq_op rfl ?_ (fun W hW => ?_) ?_; rotate_left; (focus simp only [OpV]; go_simp; first | exact rfl | exact ⟨rfl,hW⟩))
       iterate 9 (refine detSeq_no (by kernel_rfl) ?_)
       refine detSeq_nil (fun W3 hW3 => ?_)
       have HB3:=Lib.hid (HB2.out.trans (hW3.mono HB2.out.size))
       clear J2 hW3
       go_wp2_with fail
       go_roundw
       case rel => exact ⟨i + 1,by omega,by go_num,hok,HB3⟩
       case measure => simp [intOf]; omega
      ·obtain ⟨p,hp⟩ : ∃ p,i = p + 1:=⟨i - 1,by omega⟩
       have d2 : decide ((0 : Int) < (i : Int)) = true:=by simp; omega
       have a1 : IntKind.i64.wrap ((i : Int) - 1) = (p : Int):=by rw [show (i : Int) - 1 = p from by omega]; exact IntWalk.i64_in _ (by omega)
       have a6 : IntKind.i64.wrap (p : Int) = (p : Int):=IntWalk.i64_in _ (by omega)
       have a2 : (i : Int) - 1 = (p : Int):=by omega
       have a3 : (p : Int) < us.length:=by omega
       have a4 : (0 : Int) ≤ (p : Int):=by omega
       have a5 : p < us.length:=by omega
       have K0 : ∀ W,Below W2.heap.size W2 W → W.cell? ⟨b,off + p * 3,none⟩ = some (.string pn):=fun W hW => hprev.out p hp W (HBN3.out.trans (hW.mono HBN3.out.size))
       have HPOS : Hid (0 < i):=hpos
       clear hp hpos
       (refine wp_region_det 12 45 (fun W => Below (W2).heap.size (W2) W) (by kernel_rfl) (by kernel_rfl) (by rfl) (Below.refl _ _).drew ?_; simp only [List.take_succ_cons,List.take_zero,List.drop_succ_cons,List.drop_zero])
       iterate 1 (refine detSeq_op rfl ?_ (fun W hW => ?_) ?_; rotate_left; (focus simp only [OpV]; go_simp; first | exact rfl | exact ⟨rfl,hW⟩))
       (refine detSeq_op rfl (.bool true) (fun W hW => ?_) ?_; focus (simp only [OpV]; go_simp; try (first | exact rfl | exact hW | (have h9:=d2; simp at h9; omega))))
       iterate 1 (refine detSeq_op rfl ?_ (fun W hW => ?_) ?_; rotate_left; (focus simp only [OpV]; go_simp; first | exact rfl | exact ⟨rfl,hW⟩))
       iterate 4 (refine detSeq_yes (by kernel_rfl) ?_ (fun W hW => ?_) ?_; rotate_left; (focus simp only [OpV]; go_simp; first | exact rfl | exact ⟨rfl,hW⟩))
       (refine detSeq_yes (by kernel_rfl) (.int .i64 (p : Int)) (fun W hW => ?_) ?_; focus (simp only [OpV]; go_simp; try (first | exact rfl | exact hW | omega)))
       iterate 3 (refine detSeq_yes (by kernel_rfl) ?_ (fun W hW => ?_) ?_; rotate_left; (focus simp only [OpV]; go_simp; first | exact rfl | exact ⟨rfl,hW⟩))
       (refine detSeq_yes (by kernel_rfl) (.bool (leB d.name pn)) (fun W hW => ?_) ?_; focus (simp only [OpV]; go_simp; try (first | exact rfl | exact hW | exact ⟨rfl,hW⟩)))
       refine detSeq_nil (fun W3 hW3 => ?_)
       have HB3:=Lib.hid (HB2.out.trans (hW3.mono HB2.out.size))
       clear J2 K0 hW3
       have HLE:=Lib.hid (leB_iff d.name pn)
       generalize leB d.name pn = le at HLE ⊢
       cases le with
       | true =>
        have hv:=Lib.hid (HBAD.out 7 (HA3.out.trans (if_pos ⟨HPOS.out,HLE.out.1 rfl⟩)) (by omega))
        go_wp2_with fail
        go_ret
        exact ⟨ret_int hv.out.symm,HB3.out⟩
       | false =>
        have hok:=Lib.hid (HNX.out (HA3.out.trans (if_neg (fun c => by have:=HLE.out.2 c.2; cases this))))
        go_wp2_with fail
        go_roundw
        case rel => exact ⟨i + 1,by omega,by go_num,hok,HB3⟩
        case measure => simp [intOf]; omega
     ·have k3 : (ie != 0) = true:=by simpa using g3
      have hv:=Lib.hid (HBAD.out ie (HA2.out.trans (if_pos g3)) g3)
      clear g3
      go_wp2_with fail
      go_ret
      exact ⟨ret_int hv.out.symm,HB2.out⟩
   ·have hie : i = us.length:=by omega
    subst hie
    have hv:=Lib.hid (HV.out.trans h0.out)
    go_wp2_with fail
    go_ret
    exact ⟨ret_int hv.out.symm,hb.out⟩
end Go.Proofs.YtbidhpgjmcedaaaGreatDoor
