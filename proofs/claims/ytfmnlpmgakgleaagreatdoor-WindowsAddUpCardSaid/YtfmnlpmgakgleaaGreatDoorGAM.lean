/- Texts of this claim, put together: EvId, MakeEvs, DelP, Clr0, IdxEv. -/
import Derived.Test.YtfmnlpmgakgleaaGreatDoorGAK
import Derived.Test.YtfmnlpmgakgleaaGreatDoorGAL
import Derived.Test.YtfmnlpmgakgleaaGreatDoorGAC
import Derived.Test.YtfmnlpmgakgleaaGreatDoorGAD
import Derived.Test.YtfmnlpmgakgleaaGreatDoorGAH
import Derived.Test.YtfmnlpmgakgleaaGreatDoorGAG
import Derived.Laws.IdiomCopy
import Derived.Laws.AppendOwn
import Derived.StillTailTactics
import Derived.Deep.Cut
namespace Go.Proofs.YtfmnlpmgakgleaaGreatDoor
set_option linter.unusedVariables false
open Go.RowKit
def evId (i:Nat):ByteArray:=⟨#[101,97,(97 + i).toUInt8]⟩
theorem evId_inj {i j:Nat} (hi:i < 14) (hj:j < 14) (h:evId i = evId j):i = j:=by
 unfold evId at h
 injection h with h
 have e:(97 + i).toUInt8 = (97 + j).toUInt8:=by
  have:=congrArg (fun a:Array UInt8 => a[2]?) h
  simpa using this
 have e2:=congrArg UInt8.toNat e
 simp [UInt8.toNat_ofNat] at e2
 omega
theorem evId_size (i:Nat):(evId i).size = 3:=rfl
set_option maxHeartbeats 4000000 in
set_option maxRecDepth 100000 in
theorem eventId_any (i:Nat) (hi:i < 14) (w:World):Calls Tryz.prog 95 #[.int .i64 (i:Int)] w fun e w' => e = .returned (.string (evId i)) ∧ w = w':=by
 have hcs:i = 0 ∨ i = 1 ∨ i = 2 ∨ i = 3 ∨ i = 4 ∨ i = 5 ∨ i = 6 ∨ i = 7 ∨ i = 8 ∨ i = 9 ∨ i = 10 ∨ i = 11 ∨ i = 12 ∨ i = 13:=by omega
 have a1:=fun W:World => (show (convert 3 21 (.int .i64 97)).run Tryz.prog W = .ok (.int .i32 97) W by kernel_rfl)
 have a2:=fun W:World => (show (convert 21 9 (.int .i32 97)).run Tryz.prog W = .ok (.string ⟨#[97]⟩) W by kernel_rfl)
 go_enter Tryz.func95,Tryz.ntmps95
 rcases hcs with rfl | rfl | rfl | rfl | rfl | rfl | rfl | rfl | rfl | rfl | rfl | rfl | rfl | rfl
 ·have b1:=fun W:World => (show (convert 3 21 (.int .i64 97)).run Tryz.prog W = .ok (.int .i32 97) W by kernel_rfl)
  have b2:=fun W:World => (show (convert 21 9 (.int .i32 97)).run Tryz.prog W = .ok (.string ⟨#[97]⟩) W by kernel_rfl)
  go_wp2_with fail
  go_ret
  exact ⟨rfl,rfl⟩
 ·have b1:=fun W:World => (show (convert 3 21 (.int .i64 98)).run Tryz.prog W = .ok (.int .i32 98) W by kernel_rfl)
  have b2:=fun W:World => (show (convert 21 9 (.int .i32 98)).run Tryz.prog W = .ok (.string ⟨#[98]⟩) W by kernel_rfl)
  go_wp2_with fail
  go_ret
  exact ⟨rfl,rfl⟩
 ·have b1:=fun W:World => (show (convert 3 21 (.int .i64 99)).run Tryz.prog W = .ok (.int .i32 99) W by kernel_rfl)
  have b2:=fun W:World => (show (convert 21 9 (.int .i32 99)).run Tryz.prog W = .ok (.string ⟨#[99]⟩) W by kernel_rfl)
  go_wp2_with fail
  go_ret
  exact ⟨rfl,rfl⟩
 ·have b1:=fun W:World => (show (convert 3 21 (.int .i64 100)).run Tryz.prog W = .ok (.int .i32 100) W by kernel_rfl)
  have b2:=fun W:World => (show (convert 21 9 (.int .i32 100)).run Tryz.prog W = .ok (.string ⟨#[100]⟩) W by kernel_rfl)
  go_wp2_with fail
  go_ret
  exact ⟨rfl,rfl⟩
 ·have b1:=fun W:World => (show (convert 3 21 (.int .i64 101)).run Tryz.prog W = .ok (.int .i32 101) W by kernel_rfl)
  have b2:=fun W:World => (show (convert 21 9 (.int .i32 101)).run Tryz.prog W = .ok (.string ⟨#[101]⟩) W by kernel_rfl)
  go_wp2_with fail
  go_ret
  exact ⟨rfl,rfl⟩
 ·have b1:=fun W:World => (show (convert 3 21 (.int .i64 102)).run Tryz.prog W = .ok (.int .i32 102) W by kernel_rfl)
  have b2:=fun W:World => (show (convert 21 9 (.int .i32 102)).run Tryz.prog W = .ok (.string ⟨#[102]⟩) W by kernel_rfl)
  go_wp2_with fail
  go_ret
  exact ⟨rfl,rfl⟩
 ·have b1:=fun W:World => (show (convert 3 21 (.int .i64 103)).run Tryz.prog W = .ok (.int .i32 103) W by kernel_rfl)
  have b2:=fun W:World => (show (convert 21 9 (.int .i32 103)).run Tryz.prog W = .ok (.string ⟨#[103]⟩) W by kernel_rfl)
  go_wp2_with fail
  go_ret
  exact ⟨rfl,rfl⟩
 ·have b1:=fun W:World => (show (convert 3 21 (.int .i64 104)).run Tryz.prog W = .ok (.int .i32 104) W by kernel_rfl)
  have b2:=fun W:World => (show (convert 21 9 (.int .i32 104)).run Tryz.prog W = .ok (.string ⟨#[104]⟩) W by kernel_rfl)
  go_wp2_with fail
  go_ret
  exact ⟨rfl,rfl⟩
 ·have b1:=fun W:World => (show (convert 3 21 (.int .i64 105)).run Tryz.prog W = .ok (.int .i32 105) W by kernel_rfl)
  have b2:=fun W:World => (show (convert 21 9 (.int .i32 105)).run Tryz.prog W = .ok (.string ⟨#[105]⟩) W by kernel_rfl)
  go_wp2_with fail
  go_ret
  exact ⟨rfl,rfl⟩
 ·have b1:=fun W:World => (show (convert 3 21 (.int .i64 106)).run Tryz.prog W = .ok (.int .i32 106) W by kernel_rfl)
  have b2:=fun W:World => (show (convert 21 9 (.int .i32 106)).run Tryz.prog W = .ok (.string ⟨#[106]⟩) W by kernel_rfl)
  go_wp2_with fail
  go_ret
  exact ⟨rfl,rfl⟩
 ·have b1:=fun W:World => (show (convert 3 21 (.int .i64 107)).run Tryz.prog W = .ok (.int .i32 107) W by kernel_rfl)
  have b2:=fun W:World => (show (convert 21 9 (.int .i32 107)).run Tryz.prog W = .ok (.string ⟨#[107]⟩) W by kernel_rfl)
  go_wp2_with fail
  go_ret
  exact ⟨rfl,rfl⟩
 ·have b1:=fun W:World => (show (convert 3 21 (.int .i64 108)).run Tryz.prog W = .ok (.int .i32 108) W by kernel_rfl)
  have b2:=fun W:World => (show (convert 21 9 (.int .i32 108)).run Tryz.prog W = .ok (.string ⟨#[108]⟩) W by kernel_rfl)
  go_wp2_with fail
  go_ret
  exact ⟨rfl,rfl⟩
 ·have b1:=fun W:World => (show (convert 3 21 (.int .i64 109)).run Tryz.prog W = .ok (.int .i32 109) W by kernel_rfl)
  have b2:=fun W:World => (show (convert 21 9 (.int .i32 109)).run Tryz.prog W = .ok (.string ⟨#[109]⟩) W by kernel_rfl)
  go_wp2_with fail
  go_ret
  exact ⟨rfl,rfl⟩
 ·have b1:=fun W:World => (show (convert 3 21 (.int .i64 110)).run Tryz.prog W = .ok (.int .i32 110) W by kernel_rfl)
  have b2:=fun W:World => (show (convert 21 9 (.int .i32 110)).run Tryz.prog W = .ok (.string ⟨#[110]⟩) W by kernel_rfl)
  go_wp2_with fail
  go_ret
  exact ⟨rfl,rfl⟩
open Go.RowKit
abbrev EvM:=RG (D:=EvD) 42 6 fEv
theorem infoEv9:(Tryz.prog.info? 42).map (fun i => (i.zero,i.size,i.bytes)) = some (some (.agg #[.string ⟨#[]⟩,.string ⟨#[]⟩,.int .i64 0,.int .i64 0,.string ⟨#[]⟩,.slice none 0 0]),6,88):=by kernel_rfl
def Own3 (es:List EvD):Prop:=es.Pairwise fun a b => a.id.size = 3 → b.id.size = 3 → a.id ≠ b.id
structure EvsOk (H:Frz) (es:List EvD):Prop where
 inn:∀ d ∈ es,EvIn H d
 ids:∀ p (h:p < es.length),IdLike (evId p) es[p]
theorem EvsOk.le {H H':Frz} {es:List EvD} (h:EvsOk H es) (hl:H.Le H'):EvsOk H' es:=⟨fun d hd => (h.inn d hd).le hl,h.ids⟩
theorem EvsOk.snoc {H:Frz} {es:List EvD} {d:EvD} (h:EvsOk H es) (hd:EvIn H d) (hi:IdLike (evId es.length) d):EvsOk H (es ++ [d]):=by
 refine ⟨fun x hx => ?_,fun p hp => ?_⟩
 ·rcases List.mem_append.1 hx with hx | hx
  ·exact h.inn x hx
  ·rw [List.mem_singleton.1 hx];exact hd
 ·by_cases c:p < es.length
  ·rw [List.getElem_append_left c];exact h.ids p c
  ·have e:p = es.length:=by simp at hp;omega
   subst e
   rw [List.getElem_append_right (Nat.le_refl _)]
   simpa using hi
theorem EvsOk.own {H:Frz} {es:List EvD} (h:EvsOk H es) (hl:es.length ≤ 14):Own3 es:=by
 unfold Own3
 rw [List.pairwise_iff_getElem]
 intro i j hi hj hij s1 s2 e
 have a1:es[i].id = evId i:=(h.ids i hi).resolve_right (fun c => by omega)
 have a2:es[j].id = evId j:=(h.ids j hj).resolve_right (fun c => by omega)
 rw [a1,a2] at e
 have:=evId_inj (by omega) (by omega) e
 omega
theorem own3_perm {es es':List EvD} (h:Own3 es) (hp:es'.Perm es):Own3 es':=(hp.pairwise_iff (fun {a b} r s1 s2 e => r s2 s1 e.symm)).2 h
theorem swap_perm {es:List EvD} (h:1 < es.length):((es.set 0 es[1]).set 1 es[0]).Perm es:=by
 match es,h with
 | a :: b :: r,_ => exact List.Perm.swap a b r
def EvsPost (w:World) (bs K m:Nat) (H:Frz) (W:World) (e:Ending) (W':World):Prop:=∃ v es H',e = .returned v ∧ H.Le H' ∧ (∀ b,b < W.heap.size → H' b = H b) ∧ EvM w bs (K + 5000 * m + 10) H' W v es W' ∧ (∀ d ∈ es,EvIn H' d) ∧ es.length = m ∧ Own3 es
set_option maxHeartbeats 8000000 in
set_option maxRecDepth 100000 in
theorem Lw.events {w W:World} {bs K:Nat} {H:Frz} (h:Lw w bs K H W) (hK:K ≤ 200000) (hP:PoolIn H) (hN:NamesIn H) (hE:ENamesIn H) (m:Nat) (hm:m ≤ 14) :
  Calls Tryz.prog 42 #[.pointer (some ⟨bs,0,none⟩),.int .i64 m] W (EvsPost w bs K m H W):=by
 obtain ⟨i0,hi0,hz0,hz1,hz2⟩:=info_parts infoEv9
 have hbs:=h.lt
 have C0:Hid (EvM w bs K H W (.slice none 0 0) [] W):=RG.start h
 have HP:=Lib.hid hP
 have HN:=Lib.hid hN
 have HE:=Lib.hid hE
 clear h hP hN hE
 go_enter Tryz.func42,Tryz.ntmps42
 have hne:=C0.out.lw.lt
 have hIn:Ints (W.alloc (.cells #[.int .i64 0,.int .i64 0,.int .i64 5,.int .i64 1000] 3)) (some ⟨W.heap.size,0,none⟩) [0,0,5,1000]:=Ints.of_row (heap_at rfl) rfl
 have HIn:=Lib.hid hIn
 clear hIn
 go_wp2_with fail
 refine ((C0.out.alloc _).lw.pick _ _ [0,0,5,1000] HIn.out (fun b off e => by injection e with e;injection e with e1 e2;omega) (by simp) (by simp) (by omega)).mono ?_
 rintro e W1 ⟨at9,rfl,hat9,Lq,gq,-⟩
 have C1:=Lib.hid ((C0.out.alloc _).asked Lq gq)
 clear Lq gq HIn hne C0
 have hat9:0 ≤ at9 ∧ at9 ≤ 1000:=by simp at hat9;omega
 go_wp2_with fail
 go_loopw [5,6,12] (fun v ta t wr => ∃ (i:Nat) (es:List EvD) (H':Frz) (at_:Int),i ≤ m ∧ t = .int .i64 i ∧ ta = .int .i64 at_ ∧ 0 ≤ at_ ∧ at_ ≤ 1000 + 1440 * i ∧ Hid (H.Le H') ∧ Hid (∀ b,b < W.heap.size → H' b = H b) ∧ Hid (EvM w bs (K + 1 + 5000 * i) H' W v es wr) ∧ es.length = i ∧ Hid (EvsOk H' es)) (fun _ _ t _ => m - (intOf t).toNat)
 case atStart => exact ⟨0,[],H,at9,by omega,rfl,rfl,by omega,by omega,Frz.Le.refl _,(fun b hb => rfl),C1.out.more (by omega),rfl,⟨(fun t ht => by cases ht),fun p hp => by simp at hp⟩⟩
 case round =>
  obtain ⟨i,es,H1,at_,hi,rfl,rfl,ha0,ha1,HLE,HOLD,C,hdl,HOK⟩:=hrel
  have HDL:=Lib.hid hdl
  clear hdl C1 hat9
  obtain ⟨A,cap,hv,hle⟩:=C.out.1.row.slice
  by_cases hlt:i < m
  ·have di:decide ((i:Int) < (m:Int)) = true:=by simp;omega
   subst hv
   have hne:=C.out.lw.lt
   have hIn:Ints (wr.alloc (.cells #[.int .i64 0,.int .i64 0,.int .i64 1,.int .i64 5,.int .i64 10,.int .i64 30,.int .i64 100,.int .i64 1000,.int .i64 1440] 3)) (some ⟨wr.heap.size,0,none⟩) [0,0,1,5,10,30,100,1000,1440]:=Ints.of_row (heap_at rfl) rfl
   have HIn:=Lib.hid hIn
   clear hIn
   go_wp2_with fail
   refine ((C.out.alloc _).lw.pick _ _ [0,0,1,5,10,30,100,1000,1440] HIn.out (fun b off e => by injection e with e;injection e with e1 e2;omega) (by simp) (by simp) (by omega)).mono ?_
   rintro e W2 ⟨st,rfl,hst,Lq,gq,-⟩
   have C2:=Lib.hid ((C.out.alloc _).asked Lq gq)
   clear Lq gq HIn hne C
   have hst2:0 ≤ st ∧ st ≤ 1440:=by simp at hst;omega
   clear hst
   have wa:IntKind.i64.wrap (at_ + st) = at_ + st:=IntWalk.i64_in _ (by omega)
   go_wp2_with fail
   refine (eventId_any i (by omega) _).mono ?_
   rintro e w' ⟨rfl,rfl⟩
   have HEID:Hid ((evId i).size ≤ 1000):=by show _ ≤ _;rw [evId_size];omega
   have HII:Hid (evId i = evId es.length):=by show _ = _;rw [HDL.out]
   generalize evId i = ei at *
   go_wp2_with fail
   refine (C2.out.lw.event (by omega) (HP.out.le HLE.out) (HN.out.le HLE.out) (HE.out.le HLE.out) ei HEID.out (at_ + st)).mono ?_
   rintro e W3 ⟨d,H2,rfl,le2,old2,L3,g3,hd,hid3⟩
   have C3:=Lib.hid (C2.out.laid L3 g3 old2)
   have HLE2:=Lib.hid (HLE.out.trans le2)
   have HOLD2:Hid (∀ b,b < W.heap.size → H2 b = H b):=fun b hb => (old2 b (Nat.lt_of_lt_of_le hb C2.out.2.size)).trans (HOLD.out b hb)
   rw [HII.out] at hid3
   have HOK2:=Lib.hid ((HOK.out.le le2).snoc hd hid3)
   have HL1:=HDL.out
   clear C2 HLE HOLD HOK L3 g3 old2 le2 hd hid3
   generalize hv2:Value.slice A es.length cap = v2 at C3
   have HOr:=Lib.hid C3.out.1.row
   have HST:=Lib.hid (fun v' W' o g1 at1 => C3.out.app (v':=v') (W':=W') (ds':=es ++ [d]) o g1 at1)
   have hB9:=C3.out.1.2.2.2.2
   go_wp2_with (at_builtin;refine wpList_app_at rfl _ _ 26 rfl W.heap.size 42 i0 (.agg #[.string ⟨#[]⟩,.string ⟨#[]⟩,.int .i64 0,.int .i64 0,.string ⟨#[]⟩,.slice none 0 0]) 6 88 Tryz.underlying26 hi0 hz0 hz1 hz2 rfl (by decide) fEv _ es rfl HOr.out d #[.string d.id,.string d.name,.int .i64 d.at_,.int .i64 d.kind,.string d.text,.slice d.fa d.fields.length d.fc] 42 rfl rfl (by simp [Value.oneCell']) (by omega) (by omega) hB9 ?_;intro v1 w2 o1 g1 b1 at1;have CA:=Lib.hid (HST.out v1 w2 o1 g1 at1);clear o1 g1 b1 at1 HST HOr)
   go_roundw
   case rel => exact ⟨i + 1,_,H2,at_ + st,by omega,by go_num,by first | rfl | rw [wa],by omega,by omega,HLE2,HOLD2,CA.out.more (by omega),by simp;omega,HOK2⟩
   case measure => simp [intOf];omega
  ·have hie:i = m:=by omega
   subst hie
   subst hv
   have HOW:=Lib.hid (HOK.out.own (by have:=HDL.out;omega))
   have HINN:=Lib.hid HOK.out.inn
   have dn:decide ((i:Int) < (i:Int)) = false:=by simp
   clear HOK
   by_cases h1:1 < i
   ·have k1:decide ((1:Int) < (i:Int)) = true:=by simp;omega
    go_wp2_with fail
    refine (C.out.lw.flip 60 (by omega) (by omega)).mono ?_
    rintro e W4 ⟨fb,rfl,Lq,gq,-⟩
    have C4:=Lib.hid (C.out.asked Lq gq)
    clear Lq gq C
    cases fb with
    | false =>
     have HF:Hid (EvsPost w bs K i H W (.returned (.slice A es.length cap)) W4):=⟨_,es,H1,rfl,HLE.out,HOLD.out,C4.out.more (by omega),HINN.out,HDL.out,HOW.out⟩
     go_wp2_with fail
     exact bodyPost_ret (by kernel_rfl) rfl HF.out
    | true =>
     have hes:1 < es.length:=by have:=HDL.out;omega
     obtain ⟨g,capg,rest,hv,hleg,hBg,hgl,hmg,hblk,hr⟩:=C4.out.1.row.form (by intro e;rw [e] at hes;simp at hes)
     simp only [Value.slice.injEq,true_and] at hv
     obtain ⟨rfl,rfl⟩:=hv
     have hz:0 < es.length:=by omega
     have ca0:W4.cell? ⟨g,0,none⟩ = some (.string es[0].id):=hblk.cell 0 0 hz (by omega)
     have ca1:W4.cell? ⟨g,1,none⟩ = some (.string es[0].name):=hblk.cell 0 1 hz (by omega)
     have ca2:W4.cell? ⟨g,2,none⟩ = some (.int .i64 es[0].at_):=hblk.cell 0 2 hz (by omega)
     have ca3:W4.cell? ⟨g,3,none⟩ = some (.int .i64 es[0].kind):=hblk.cell 0 3 hz (by omega)
     have ca4:W4.cell? ⟨g,4,none⟩ = some (.string es[0].text):=hblk.cell 0 4 hz (by omega)
     have ca5:W4.cell? ⟨g,5,none⟩ = some (.slice es[0].fa es[0].fields.length es[0].fc):=hblk.cell 0 5 hz (by omega)
     have cb0:W4.cell? ⟨g,6,none⟩ = some (.string es[1].id):=hblk.cell 1 0 hes (by omega)
     have cb1:W4.cell? ⟨g,7,none⟩ = some (.string es[1].name):=hblk.cell 1 1 hes (by omega)
     have cb2:W4.cell? ⟨g,8,none⟩ = some (.int .i64 es[1].at_):=hblk.cell 1 2 hes (by omega)
     have cb3:W4.cell? ⟨g,9,none⟩ = some (.int .i64 es[1].kind):=hblk.cell 1 3 hes (by omega)
     have cb4:W4.cell? ⟨g,10,none⟩ = some (.string es[1].text):=hblk.cell 1 4 hes (by omega)
     have cb5:W4.cell? ⟨g,11,none⟩ = some (.slice es[1].fa es[1].fields.length es[1].fc):=hblk.cell 1 5 hes (by omega)
     have f0:=hblk.frozen 0
     have f1:=hblk.frozen 1
     have f2:=hblk.frozen 2
     have f3:=hblk.frozen 3
     have f4:=hblk.frozen 4
     have f5:=hblk.frozen 5
     have f6:=hblk.frozen 6
     have f7:=hblk.frozen 7
     have f8:=hblk.frozen 8
     have f9:=hblk.frozen 9
     have f10:=hblk.frozen 10
     have f11:=hblk.frozen 11
     have HPM:=Lib.hid (swap_perm hes)
     have ZP:=Lib.hid ((hblk.put 0 hz es[1]).put 1 (by simpa using hes) es[0])
     have ZL:Hid (((es.set 0 es[1]).set 1 es[0]).length = es.length):=by show _ = _;simp
     have ZG:=Lib.hid (setK_grown (1 * 6) ((List.range 6).map (fEv es[0])) (setK_grown (0 * 6) ((List.range 6).map (fEv es[1])) (World.grownBy.refl W4 (some g))))
     have HRE:=Lib.hid hr
     have hll:(0:Int) < es.length:=by omega
     have hl1:(1:Int) < es.length:=by omega
     clear hblk hr
     generalize (es.set 0 es[1]).set 1 es[0] = es2 at HPM ZP ZL
     generalize es[0] = x at *
     generalize es[1] = y at *
     go_upto_region 10 with (fail)
     go_region
     show Exit.then _ _ _ _ (World.drew (setK (setK W4 g (0 * 6) (List.map (fEv y) (List.range 6))) g (1 * 6) (List.map (fEv x) (List.range 6))))
     generalize setK (setK W4 g (0 * 6) (List.map (fEv y) (List.range 6))) g (1 * 6) (List.map (fEv x) (List.range 6)) = W5 at *
     have HF:Hid (EvsPost w bs K i H W (.returned (.slice (some ⟨g,0,none⟩) es.length cap)) W5.drew):=by
      have o:=Orow.of_blk (cap:=cap) ZP.out hBg hmg (by rw [ZL.out];exact hleg) (by rw [HRE.out,ZL.out])
      rw [ZL.out] at o
      have C5:=C4.out.app (ds':=es2) o ZG.out (Or.inl rfl)
      exact ⟨_,es2,H1,rfl,HLE.out,HOLD.out,C5.drew.more (by omega),fun d hd => HINN.out d (HPM.out.mem_iff.1 hd),ZL.out.trans HDL.out,own3_perm HOW.out HPM.out⟩
     clear ca0 ca1 ca2 ca3 ca4 ca5 cb0 cb1 cb2 cb3 cb4 cb5 f0 f1 f2 f3 f4 f5 f6 f7 f8 f9 f10 f11
     go_wp2_with fail
     exact bodyPost_ret (by kernel_rfl) rfl HF.out
   ·have k1:decide ((1:Int) < (i:Int)) = false:=by simp;omega
    have HF:Hid (EvsPost w bs K i H W (.returned (.slice A es.length cap)) wr):=⟨_,es,H1,rfl,HLE.out,HOLD.out,C.out.more (by omega),HINN.out,HDL.out,HOW.out⟩
    go_wp2_with fail
    exact bodyPost_ret (by kernel_rfl) rfl HF.out
open Go.RowKit
structure DelOk {D:Type} (p:D → Bool) (ds cur:List D) (i j:Nat):Prop where
 len:cur.length = ds.length
 le:i < j
 lt:j ≤ ds.length
 low:cur.take i = (ds.take j).filter (fun d => !p d)
 high:cur.drop j = ds.drop j
section
variable {D:Type} {p:D → Bool} {ds cur:List D} {i j:Nat}
theorem DelOk.at_ (h:DelOk p ds cur i j) (hj:j < ds.length):cur[j]'(by rw [h.len];exact hj) = ds[j]:=by
 have e:=congrArg (fun l => l[0]?) h.high
 simp only [List.getElem?_drop,Nat.add_zero] at e
 rw [List.getElem?_eq_getElem (by rw [h.len];exact hj),List.getElem?_eq_getElem hj] at e
 exact Option.some.inj e
theorem DelOk.drop (h:DelOk p ds cur i j) (hj:j < ds.length) (hp:p ds[j] = true):DelOk p ds cur i (j + 1):=by
 refine ⟨h.len,by have:=h.le;omega,hj,?_,?_⟩
 ·rw [List.take_succ_eq_append_getElem hj,List.filter_append,h.low]
  simp [hp]
 ·rw [← List.drop_drop,h.high,List.drop_drop]
theorem DelOk.keep (h:DelOk p ds cur i j) (hj:j < ds.length) (hp:p ds[j] = false):DelOk p ds (cur.set i ds[j]) (i + 1) (j + 1):=by
 have hle:=h.le
 have hl:=h.len
 refine ⟨by simp [hl],by omega,hj,?_,?_⟩
 ·rw [List.take_succ_eq_append_getElem (by simp;omega),List.take_set_of_le (Nat.le_refl _),h.low,List.take_succ_eq_append_getElem hj,List.filter_append]
  simp [hp]
 ·rw [List.drop_set_of_lt (by omega),← List.drop_drop,h.high,List.drop_drop]
theorem DelOk.done (h:DelOk p ds cur i ds.length):cur.take i = ds.filter (fun d => !p d):=by rw [h.low,List.take_length]
theorem DelOk.start (hj:j < ds.length) (h:∀ m (hm:m < j),p (ds[m]'(by omega)) = false) (hp:p ds[j] = true):DelOk p ds ds j (j + 1):=by
 refine ⟨rfl,by omega,hj,?_,rfl⟩
 rw [List.take_succ_eq_append_getElem hj,List.filter_append]
 have:(ds.take j).filter (fun d => !p d) = ds.take j:=by
  rw [List.filter_eq_self]
  intro a ha
  obtain ⟨m,hm,rfl⟩:=List.getElem_of_mem ha
  simp only [List.length_take] at hm
  rw [List.getElem_take,h m (by omega)]
  rfl
 rw [this]
 simp [hp]
end
open Go.RowKit
theorem setCells_eq (w:World) (b:Nat):∀ (vs:List Value) (o:Nat) (w:World),w.setCells b o vs = setK w b o vs
 | [],_,_ => rfl
 | v :: r,o,w => by rw [World.setCells,setK];exact setCells_eq w b r (o + 1) _
theorem run_clear_rows {P:Program} (w:World) (t e ty:TypeId) (z:Value) (ht:P.underlying t = some (.slice e)) (hv:∀ w,(zeroValue e).run P w = .ok z w) (k:Nat) (hk:z.cells.size = k) (h0:0 < k) (h1:∀ v ∈ z.cells.toList,v.oneCell' = true) (b o n c:Nat) (hn:0 < n)
  (hc:∀ j,j < n * k → (w.cell? ⟨b,o + j,none⟩).isSome = true) (hf:∀ j,j < n * k → w.frozen? ⟨b,o + j,none⟩ = false) :
  (Builtin.clear_ #[t] ty #[.slice (some ⟨b,o,none⟩) n c]).run P w = .ok (.tuple #[]) (setK w b o (Builtin.zeroCells z.cells n).toList):=by
 have hl:(Builtin.zeroCells z.cells n).toList.length = n * k:=by rw [Array.length_toList,size_zeroCells,hk]
 have hst:=run_storeCells_cells (P:=P) b o (Builtin.zeroCells z.cells n).toList 0 w (by rw [hl];simpa using hc) (by rw [hl];simpa using hf) (by
  intro v hv'
  simp only [Builtin.zeroCells,Array.toList_map,List.mem_map] at hv'
  obtain ⟨i,_,rfl⟩:=hv'
  apply h1
  rw [getElem!_pos z.cells (i % z.cells.size) (Nat.mod_lt _ (by omega))]
  simp)
 simp only [Nat.add_zero] at hst
 obtain ⟨m,rfl⟩:∃ m,n = m + 1:=⟨n - 1,by omega⟩
 simp [Builtin.clear_,run_underlying ht,hv,hst,setCells_eq w b]
theorem KBlk.cut {D:Type} {w:World} {g T k:Nat} {f:D → Nat → Value} {ds:List D} {rest:List Value} (h:KBlk w g T k f ds rest) {i:Nat} (hi:i ≤ ds.length) (l:List Value) (hl:l.length = (ds.length - i) * k) :
  KBlk (setK w g (i * k) l) g T k f (ds.take i) (l ++ rest):=by
 unfold KBlk at h ⊢
 have hm:i * k + (ds.length - i) * k = ds.length * k:=by rw [← Nat.add_mul];congr 1;omega
 have hL:=cellsOf_len k f ds
 rw [setK_heap w g (i * k) l h (by simp only [List.size_toArray,List.length_append];omega)]
 have e:cellsOf k f ds = cellsOf k f (ds.take i) ++ cellsOf k f (ds.drop i):=by rw [← cellsOf_split,List.take_append_drop]
 have l1:(cellsOf k f (ds.take i)).length = i * k:=by rw [cellsOf_len,List.length_take];congr 1;omega
 congr 3
 rw [e,List.append_assoc,List.append_assoc,List.take_left' l1]
 congr 1
 congr 1
 rw [← List.append_assoc,List.drop_left' (by rw [List.length_append,l1,cellsOf_len,List.length_drop,hl])]
theorem Frz.Le.in_ {H H':Frz} {W:World} (hl:H.Le H') (h:H'.In W):H.In W:=fun b o e => h b o (hl b o e)
open Go.RowKit
section
variable {D:Type}
end
end Go.Proofs.YtfmnlpmgakgleaaGreatDoor
