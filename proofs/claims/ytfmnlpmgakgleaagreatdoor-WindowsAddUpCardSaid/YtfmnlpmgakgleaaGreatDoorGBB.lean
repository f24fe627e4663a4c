/- Texts of this claim, put together: NamedW, BsfFd, Find, SumEv. -/
import Derived.Test.YtfmnlpmgakgleaaGreatDoorGBA
import Derived.Test.YtfmnlpmgakgleaaGreatDoorGAC
import Derived.Test.YtfmnlpmgakgleaaGreatDoorGAD
import Derived.Test.YtfmnlpmgakgleaaGreatDoorGAP
import Derived.StillTailTactics
import Derived.Deep.Cut
import Derived.Test.YtfmnlpmgakgleaaGreatDoorGAG
namespace Go.Proofs.YtfmnlpmgakgleaaGreatDoor
set_option linter.unusedVariables false
open Go.RowKit
def WinOk (x:WinD):Prop:=0 ≤ x.fr ∧ x.fr ≤ x.til ∧ x.til ≤ 4321440
set_option maxHeartbeats 1000000 in
set_option maxRecDepth 100000 in
theorem checkWindow_ok (x:WinD) (hx:WinOk x) (w:World):Calls Tryz.prog 111 #[.agg #[.int .i64 x.fr,.int .i64 x.til]] w fun e w' => e = .returned (.int .i64 0) ∧ Below w.heap.size w w':=by
 obtain ⟨h1,h2,h3⟩:=hx
 have z0:(w.alloc (.cells #[.int .i64 x.fr,.int .i64 x.til] 35)).cell? ⟨w.heap.size,0,none⟩ = some (.int .i64 x.fr):=newc 0 rfl
 have z1:(w.alloc (.cells #[.int .i64 x.fr,.int .i64 x.til] 35)).cell? ⟨w.heap.size,1,none⟩ = some (.int .i64 x.til):=newc 1 rfl
 have HBN:=Lib.hid (new1 (w:=w) (.cells #[.int .i64 x.fr,.int .i64 x.til] 35))
 have k1:decide (x.fr < 0) = false:=by simp;omega
 have k2:decide (x.til < x.fr) = false:=by simp;omega
 have k3:decide ((4321440:Int) < x.til) = false:=by simp;omega
 go_enter Tryz.func111,Tryz.ntmps111
 go_upto_region 1 with (fail)
 generalize w.alloc (.cells #[.int .i64 x.fr,.int .i64 x.til] 35) = W1 at *
 go_wp2_with fail
 go_ret
 exact ⟨rfl,HBN.out⟩
set_option maxHeartbeats 4000000 in
set_option maxRecDepth 100000 in
theorem checkNamed_ok (H:Frz) (hU:UtfIn H) (hM:MLen H) (A:Option Addr) (cap:Nat) (es:List EvD) (x:WinD) (g capn:Nat) (ns:List ByteArray) (w:World) (hH:H.In w) (hR:Rw H A 6 fEv es) (hI:∀ d ∈ es,EvIn H d) (hl:es.length ≤ 1000) (hr:RightEs es) (hx:WinOk x)
  (hn:∀ i (h:i < ns.length),w.cell? ⟨g,i,none⟩ = some (.string ns[i])) (hk:∀ n ∈ ns,isKey n = true ∧ n.size ≤ 1000) (hnl:ns.length ≤ 1000) :
  Calls Tryz.prog 50 #[.slice A es.length cap,.agg #[.int .i64 x.fr,.int .i64 x.til],.slice (some ⟨g,0,none⟩) ns.length capn] w fun e w' => e = .returned (.int .i64 0) ∧ Below w.heap.size w w':=by
 have z0:(w.alloc (.cells #[.int .i64 x.fr,.int .i64 x.til] 35)).cell? ⟨w.heap.size,0,none⟩ = some (.int .i64 x.fr):=newc 0 rfl
 have z1:(w.alloc (.cells #[.int .i64 x.fr,.int .i64 x.til] 35)).cell? ⟨w.heap.size,1,none⟩ = some (.int .i64 x.til):=newc 1 rfl
 have HBN:=Lib.hid (new1 (w:=w) (.cells #[.int .i64 x.fr,.int .i64 x.til] 35))
 have HCK:=Lib.hid (fun W (hW:H.In W) => check_right H hU hM A cap es W hW hR hI (by omega) hr)
 have HIN:=Lib.hid (hH.below HBN.out)
 have HN:=Lib.hid (fun i h => lift_cell (hn i h))
 have HK:=Lib.hid hk
 have HWX:=Lib.hid hx
 clear hH hR hI hr hU hM hn hk hx
 go_enter Tryz.func50,Tryz.ntmps50
 go_upto_region 1 with (fail)
 generalize w.alloc (.cells #[.int .i64 x.fr,.int .i64 x.til] 35) = W1 at *
 go_wp2_with fail
 refine (HCK.out W1 HIN.out).mono ?_
 rintro e W2 ⟨rfl,hb2⟩
 have HB2:=Lib.hid (HBN.out.trans (hb2.mono HBN.out.size))
 have HZ0:=Lib.hid (lift_cell (lift_cell z0 _ hb2))
 have HZ1:=Lib.hid (lift_cell (lift_cell z1 _ hb2))
 clear hb2 z0 z1 HBN HIN HCK
 go_wp2_with fail
 go_loopw [17] (fun t wr => ∃ i:Nat,i ≤ ns.length ∧ t = .int .i64 i ∧ Hid (Below W2.heap.size W2 wr)) (fun t _ => ns.length - (intOf t).toNat)
 case atStart => exact ⟨0,by omega,rfl,Below.refl _ _⟩
 case round =>
  obtain ⟨i,hi,rfl,hb⟩:=hrel
  by_cases hlt:i < ns.length
  ·have c0:=HN.out i hlt wr (HB2.out.trans (hb.out.mono HB2.out.size))
   obtain ⟨hk1,hk2⟩:=HK.out _ (List.getElem_mem hlt)
   have HKK:=Lib.hid hk1
   have hit:(i:Int) < ns.length:=by omega
   clear hk1
   generalize ns[i] = n at *
   go_wp2_with fail
   refine (isKey_any n _ (by omega)).mono ?_
   rintro e w' ⟨rfl,rfl⟩
   rw [HKK.out]
   clear c0
   go_wp2_with fail
   go_roundw
   case rel => exact ⟨i + 1,by omega,by go_num,hb⟩
   case measure => simp [intOf];omega
  ·have hie:i = ns.length:=by omega
   subst hie
   have y0:=HZ0.out _ hb.out
   have y1:=HZ1.out _ hb.out
   have HB3:=Lib.hid (HB2.out.trans (hb.out.mono HB2.out.size))
   go_wp2_with fail
   refine (checkWindow_ok x HWX.out _).mono ?_
   rintro e W4 ⟨rfl,hb4⟩
   have HB4:=Lib.hid (HB3.out.trans (hb4.mono HB3.out.size))
   clear hb4 y0 y1
   go_wp2_with fail
   go_ret
   exact ⟨rfl,HB4.out⟩
theorem one_name (name:ByteArray) (W:World):∀ i (h:i < [name].length),(W.alloc (.cells #[.string name] 9)).cell? ⟨W.heap.size,i,none⟩ = some (.string [name][i]):=by
 intro i h
 have h0:i = 0:=by simp at h;omega
 subst h0
 exact newc 0 rfl
theorem two_names (a b:ByteArray) (W:World):∀ i (h:i < [a,b].length),(W.alloc (.cells #[.string a,.string b] 9)).cell? ⟨W.heap.size,i,none⟩ = some (.string [a,b][i]):=by
 intro i h
 have h0:i = 0 ∨ i = 1:=by simp at h;omega
 rcases h0 with rfl | rfl
 ·exact newc 0 rfl
 ·exact newc 1 rfl
def NamedW (es:List EvD) (w:World) (e:Ending) (w':World):Prop:=∃ v cur,e = .returned (.tuple #[v,.int .i64 0]) ∧ CAs es cur es.length w.heap.size v w' ∧ Below w.heap.size w w'
set_option maxHeartbeats 4000000 in
set_option maxRecDepth 100000 in
theorem Named_any (H:Frz) (hU:UtfIn H) (hM:MLen H) (A:Option Addr) (cap:Nat) (es:List EvD) (name:ByteArray) (x:WinD) (w:World) (hH:H.In w) (hR:Rw H A 6 fEv es) (hI:∀ d ∈ es,EvIn H d) (hl:es.length ≤ 1000) (hr:RightEs es) (hx:WinOk x) (hk:isKey name = true ∧ name.size ≤ 1000) :
  Calls Tryz.prog 16 #[.slice A es.length cap,.string name,.agg #[.int .i64 x.fr,.int .i64 x.til]] w (NamedW (namedF es name x) w):=by
 have z0:(w.alloc (.cells #[.int .i64 x.fr,.int .i64 x.til] 35)).cell? ⟨w.heap.size,0,none⟩ = some (.int .i64 x.fr):=newc 0 rfl
 have z1:(w.alloc (.cells #[.int .i64 x.fr,.int .i64 x.til] 35)).cell? ⟨w.heap.size,1,none⟩ = some (.int .i64 x.til):=newc 1 rfl
 have HBN:=Lib.hid (new1 (w:=w) (.cells #[.int .i64 x.fr,.int .i64 x.til] 35))
 have HB0:=Lib.hid HBN.out
 have HCN:=Lib.hid (fun g W (hW:H.In W) hn => checkNamed_ok H hU hM A cap es x g 1 [name] W hW hR hI hl hr hx hn (fun n h => by simp at h;rw [h];exact hk) (by simp))
 have HNM:=Lib.hid (fun W (hW:H.In W) => named_any H A cap es name x W hW hR (by omega))
 have HCA:=Lib.hid (fun (H':Frz) (hle:H.Le H') A' cap' W (hW:H'.In W) hR' => copyAll_any H' A' cap' (namedF es name x) W hW hR' (fun d hd => (hI d (List.mem_filter.1 hd).1).le hle) (by have:=List.length_filter_le (inW name x) es;unfold namedF;omega))
 have HIN:=Lib.hid (hH.below HBN.out)
 clear hH hR hI hr hU hM hx hk HBN
 go_enter Tryz.func16,Tryz.ntmps16
 go_upto_region 1 with (fail)
 generalize w.alloc (.cells #[.int .i64 x.fr,.int .i64 x.til] 35) = W1 at *
 go_wp2_with fail
 refine (HCN.out W1.heap.size _ (HIN.out.alloc _) (one_name name W1)).mono ?_
 rintro e W2 ⟨rfl,hb2⟩
 have hb12:=(new1 (w:=W1) (.cells #[.string name] 9)).trans (hb2.mono (by simp))
 have HB2:=Lib.hid (HB0.out.trans (hb12.mono HB0.out.size))
 have y0:=lift_cell z0 _ hb12
 have y1:=lift_cell z1 _ hb12
 have HIN2:=Lib.hid (HIN.out.below hb12)
 clear hb2 hb12 z0 z1 HCN HIN HB0
 go_wp2_with fail
 refine (HNM.out W2 HIN2.out).mono ?_
 rintro e W3 ⟨v,rfl,hO,hb3⟩
 obtain ⟨A5,c5,H5,rfl,-,p1,p2,hR5,-,-⟩:=hO.freeze H
 have le5:=p2 (fun g hg => HIN2.out.none_ (hO.lt hg).1)
 have hin5:=p1 (HIN2.out.below hb3)
 have HB3:=Lib.hid (HB2.out.trans (hb3.mono HB2.out.size))
 have HC5:=Lib.hid (HCA.out H5 le5 A5 c5 W3 hin5 hR5)
 clear y0 y1 hO hb3 p1 p2 hR5 le5 hin5 HNM HCA HIN2
 go_wp2_with fail
 refine HC5.out.mono ?_
 rintro e W4 ⟨v4,cur,rfl,hC,hb4⟩
 have HF:Hid (NamedW (namedF es name x) w (.returned (.tuple #[v4,.int .i64 0])) W4) :=
  ⟨v4,cur,rfl,⟨hC.row.mono HB3.out.size,hC.len,hC.high,fun j a b h0 h1 h2 => ⟨(hC.low j a b h0 h1 h2).1,Orow.mono (hC.low j a b h0 h1 h2).2 HB3.out.size⟩⟩,HB3.out.trans (hb4.mono HB3.out.size)⟩
 obtain ⟨A8,c8,rfl,-⟩:=hC.row.slice
 clear hC hb4 HC5
 go_wp2_with fail
 go_ret2
 exact HF.out
open Go.RowKit
section
variable {D:Type}
set_option maxHeartbeats 1000000 in
set_option maxRecDepth 100000 in
theorem bsf_Fd (H:Frz) (f:D → Nat → Value) (kf:Nat) (tv:Value) (c:D → Int) (ds:List D) (hp:∀ (W:World) (d:D),d ∈ ds → H.In W → Calls Tryz.prog kf #[.agg #[f d 0,f d 1,f d 2,f d 3],tv] W fun e W' => e = .returned (.int .i64 (c d)) ∧ Below W.heap.size W W')
  (hcall:∀ (a b:Value) (W:World),(callFunc kf #[a,b]).run Tryz.prog W = .ok (.enter kf #[a,b]) W)
  (A:Option Addr) (cap:Nat) (w:World) (hH:H.In w) (hR:Rw H A 4 f ds) (hl:ds.length ≤ 1000000) (m:Nat) (hm:m ≤ ds.length) (hlo:∀ i (h:i < ds.length),i < m → c ds[i] < 0) (hhi:∀ i (h:i < ds.length),m ≤ i → 0 ≤ c ds[i]) :
  Calls Tryz.prog 112 #[.slice A ds.length cap,tv,.func (.func kf) #[] #[]] w fun e w' => e = .returned (.tuple #[.int .i64 m,.bool (hasAt c ds m)]) ∧ Below w.heap.size w w':=by
 have HP:=Lib.hid hp
 have HR:=Lib.hid hR
 have HH:=Lib.hid hH
 have HLO:=Lib.hid hlo
 have HHI:=Lib.hid hhi
 clear hp hR hH hlo hhi
 go_enter Tryz.func112,Tryz.ntmps112
 go_wp2_with fail
 go_loopw [9,10,11] (fun ti tj _ wr => ∃ i j:Nat,i ≤ m ∧ m ≤ j ∧ j ≤ ds.length ∧ ti = .int .i64 i ∧ tj = .int .i64 j ∧ Hid (Below w.heap.size w wr)) (fun ti tj _ _ => (intOf tj - intOf ti).toNat)
 case atStart => exact ⟨0,ds.length,by omega,by omega,by omega,rfl,rfl,Below.refl _ _⟩
 case round =>
  obtain ⟨i,j,hi,hj,hjl,rfl,rfl,hb⟩:=hrel
  by_cases hlt:i < j
  ·have e1:IntKind.i64.wrap ((i:Int) + (j:Int)) = (i:Int) + (j:Int):=IntWalk.i64_in _ (by omega)
   obtain ⟨h,hh⟩:∃ h,h = (i + j) / 2:=⟨_,rfl⟩
   have hhl:h < ds.length:=by omega
   have hih:i ≤ h:=by omega
   have hhj:h < j:=by omega
   have k2:((i:Int) + (j:Int)) / 2 = (h:Int):=by omega
   obtain ⟨b,off,rfl,hbl,hc⟩:=HR.out.at_ (HH.out.below hb.out) hhl (by omega)
   have c0:wr.cell? ⟨b,off + h * 4,none⟩ = some (f ds[h] 0):=hc 0 (by omega)
   have c1:wr.cell? ⟨b,off + h * 4 + 1,none⟩ = some (f ds[h] 1):=hc 1 (by omega)
   have c2:wr.cell? ⟨b,off + h * 4 + 2,none⟩ = some (f ds[h] 2):=hc 2 (by omega)
   have c3:wr.cell? ⟨b,off + h * 4 + 3,none⟩ = some (f ds[h] 3):=hc 3 (by omega)
   have HC:=Lib.hid (fun W hW => HP.out W ds[h] (List.getElem_mem hhl) hW)
   have HL:=Lib.hid (HLO.out h hhl)
   have HU:=Lib.hid (HHI.out h hhl)
   clear hc hh
   generalize hpd:c ds[h] = q at HC HL HU
   generalize f ds[h] 0 = x0 at c0 HC
   generalize f ds[h] 1 = x1 at c1 HC
   generalize f ds[h] 2 = x2 at c2 HC
   generalize f ds[h] 3 = x3 at c3 HC
   clear hpd
   go_wp2_with fail
   refine (HC.out _ (HH.out.below hb.out)).mono ?_
   rintro e w1 ⟨rfl,hb1⟩
   have hb2:=Lib.hid (hb.out.trans (hb1.mono hb.out.size))
   clear hb1 hb k2
   by_cases hq:q < 0
   ·have hhm:h < m:=by
     apply Classical.byContradiction
     intro hn
     have:=HU.out (by omega)
     omega
    go_wp2_with fail
    go_roundw
    case rel => exact ⟨h + 1,j,by omega,by omega,by omega,by go_num,rfl,hb2⟩
    case measure => simp [intOf];omega
   ·have hhm:m ≤ h:=by
     apply Classical.byContradiction
     intro hn
     exact hq (HL.out (by omega))
    go_wp2_with fail
    go_roundw
    case rel => exact ⟨i,h,by omega,by omega,by omega,rfl,rfl,hb2⟩
    case measure => simp [intOf];omega
  ·have him:i = m:=by omega
   subst him
   by_cases hml:i < ds.length
   ·have d1:decide ((i:Int) < (ds.length:Int)) = true:=by simpa using hml
    obtain ⟨b,off,rfl,hbl,hc⟩:=HR.out.at_ (HH.out.below hb.out) hml (by omega)
    have c0:wr.cell? ⟨b,off + i * 4,none⟩ = some (f ds[i] 0):=hc 0 (by omega)
    have c1:wr.cell? ⟨b,off + i * 4 + 1,none⟩ = some (f ds[i] 1):=hc 1 (by omega)
    have c2:wr.cell? ⟨b,off + i * 4 + 2,none⟩ = some (f ds[i] 2):=hc 2 (by omega)
    have c3:wr.cell? ⟨b,off + i * 4 + 3,none⟩ = some (f ds[i] 3):=hc 3 (by omega)
    have HC:=Lib.hid (fun W hW => HP.out W ds[i] (List.getElem_mem hml) hW)
    have HV:=Lib.hid (hasAt_lt (c:=c) hml)
    clear hc
    generalize hpd:c ds[i] = q at HC HV
    generalize f ds[i] 0 = x0 at c0 HC
    generalize f ds[i] 1 = x1 at c1 HC
    generalize f ds[i] 2 = x2 at c2 HC
    generalize f ds[i] 3 = x3 at c3 HC
    clear hpd
    go_wp2_with fail
    refine (HC.out _ (HH.out.below hb.out)).mono ?_
    rintro e w1 ⟨rfl,hb1⟩
    have hb2:=Lib.hid (hb.out.trans (hb1.mono hb.out.size))
    clear hb1 hb
    go_wp2_with fail
    go_ret2
    exact ⟨by rw [HV.out];simp,hb2.out⟩
   ·have hf:=Lib.hid (hasAt_ge (c:=c) (show ds.length ≤ i by omega))
    go_wp2_with fail
    go_ret2
    exact ⟨by rw [hf.out];simp,hb.out⟩
end
open Go.RowKit
set_option maxHeartbeats 400000 in
theorem fdName_any (d:FD) (name:ByteArray) (w:World):Calls Tryz.prog 113 #[.agg #[fFd d 0,fFd d 1,fFd d 2,fFd d 3],.string name] w fun e w' => e = .returned (.int .i64 (cmpS d.name name)) ∧ Below w.heap.size w w':=by
 have hb:=Lib.hid ((Below.refl w.heap.size w).alloc (Nat.le_refl _) (.cells #[.string d.name,.int .i64 d.v.kind,.string d.v.text,.int .i64 d.v.num] 119))
 rw [show fFd d 0 = .string d.name from rfl,show fFd d 1 = .int .i64 d.v.kind from rfl,show fFd d 2 = .string d.v.text from rfl,show fFd d 3 = .int .i64 d.v.num from rfl]
 go_enter Tryz.func113,Tryz.ntmps113
 go_wp2_with fail
 refine (cmpStr_any _ _ _).mono ?_
 rintro e w' ⟨rfl,rfl⟩
 generalize hc:cmpS d.name name = c
 have HC:=Lib.hid hc
 clear hc
 go_wp2_with fail
 go_ret
 exact ⟨ret_int HC.out.symm,hb.out⟩
set_option maxHeartbeats 2000000 in
set_option maxRecDepth 100000 in
theorem field_any (H:Frz) (A:Option Addr) (cap:Nat) (fs:List FD) (name:ByteArray) (w:World) (hH:H.In w) (hR:Rw H A 4 fFd fs) (hs:FdSorted fs) (hl:fs.length ≤ 1000000) :
  Calls Tryz.prog 53 #[.slice A fs.length cap,.string name] w fun e w' => e = .returned (.tuple #[vO (findF fs name),.bool (findF fs name).isSome]) ∧ Below w.heap.size w w':=by
 obtain ⟨m,-,hm,hlo,hhi,hf⟩:=splitC_at (fun p:FD => cmpS p.name name) fs (fd_steps hs name)
 have hF:=hf (fun p => p.name.toList == name.toList) (fun d => by rw [show (d.name.toList == name.toList) = eqS d.name name from rfl,eqS_iff];exact ⟨fun e => by rw [e];exact cmpS_self _,cmpS_zero⟩)
 have HF:Hid (findF fs name = (if hasAt (fun p:FD => cmpS p.name name) fs m = true then fs[m]? else none).map (·.v)):=by show _ = _;unfold findF;rw [hF]
 have HB:=Lib.hid (fun W hW => bsf_Fd H fFd 113 (.string name) (fun p => cmpS p.name name) fs (fun W d _ _ => fdName_any d name W) (fun _ _ _ => by kernel_rfl) A cap W hW hR hl m hm hlo hhi)
 have HIN:=Lib.hid (hH.alloc (.cells #[.int .i64 0,.string ⟨#[]⟩,.int .i64 0] 110))
 have HR:=Lib.hid hR
 have hb0:=Lib.hid (new1 (w:=w) (.cells #[.int .i64 0,.string ⟨#[]⟩,.int .i64 0] 110))
 clear hf hF hlo hhi hR hs hH
 go_enter Tryz.func53,Tryz.ntmps53
 go_wp2_with fail
 refine (HB.out _ HIN.out).mono ?_
 rintro e w1 ⟨rfl,hb⟩
 have hk:=keep2 hb
 have x0:w1.cell? ⟨w.heap.size,0,none⟩ = some (.int .i64 0):=cell_h hk 0 rfl
 have x1:w1.cell? ⟨w.heap.size,1,none⟩ = some (.string ⟨#[]⟩):=cell_h hk 1 rfl
 have x2:w1.cell? ⟨w.heap.size,2,none⟩ = some (.int .i64 0):=cell_h hk 2 rfl
 have y0:=froz_h hk 0
 have y1:=froz_h hk 1
 have y2:=froz_h hk 2
 have hin1:=HIN.out.below hb
 have hb1:=Lib.hid (hb0.out.trans (hb.mono hb0.out.size))
 have hz1:w.heap.size < w1.heap.size:=lt_of_heap hk
 have HK9:=Lib.hid (fun a0 a1 a2 => set3 hk a0 a1 a2)
 clear hk hb
 generalize hgh:hasAt (fun p:FD => cmpS p.name name) fs m = hh at HF
 have HGH:=Lib.hid hgh
 clear hgh
 cases hh with
 | true =>
  obtain ⟨hml,hme⟩:=hasC_some HGH.out
  obtain ⟨b,off,rfl,hbl,hc⟩:=HR.out.at_ hin1 hml (by omega)
  have c1:w1.cell? ⟨b,off + m * 4 + 1,none⟩ = some (.int .i64 fs[m].v.kind):=hc 1 (by omega)
  have c2:w1.cell? ⟨b,off + m * 4 + 1 + 1,none⟩ = some (.string fs[m].v.text):=hc 2 (by omega)
  have c3:w1.cell? ⟨b,off + m * 4 + 1 + 2,none⟩ = some (.int .i64 fs[m].v.num):=hc 3 (by omega)
  have HV:Hid (findF fs name = some fs[m].v):=HF.out.trans (by simp [hme])
  have hb2:=Lib.hid (((hb1.out.setCell (p:=⟨w.heap.size,0,none⟩) (Nat.le_refl _) (.int .i64 fs[m].v.kind)).setCell (p:=⟨w.heap.size,1,none⟩) (Nat.le_refl _) (.string fs[m].v.text)).setCell (p:=⟨w.heap.size,2,none⟩) (Nat.le_refl _) (.int .i64 fs[m].v.num))
  clear hc hme
  generalize fs[m].v = p at c1 c2 c3 HV hb2
  go_wp2_with fail
  have z0:=cell_h (HK9.out (.int .i64 p.kind) (.string p.text) (.int .i64 p.num)) 0 (v:=.int .i64 p.kind) rfl
  have z1:=cell_h (HK9.out (.int .i64 p.kind) (.string p.text) (.int .i64 p.num)) 1 (v:=.string p.text) rfl
  have z2:=cell_h (HK9.out (.int .i64 p.kind) (.string p.text) (.int .i64 p.num)) 2 (v:=.int .i64 p.num) rfl
  refine bodyPost_ret (v:=.tuple #[.agg #[.int .i64 p.kind,.string p.text,.int .i64 p.num],.bool true]) (by simp [results,Tryz.results53,go_sem,z0,z1,z2]) rfl ⟨by rw [HV.out];rfl,hb2.out⟩
 | false =>
  have HV:Hid (findF fs name = none):=HF.out
  have hb2:=Lib.hid (((hb1.out.setCell (p:=⟨w.heap.size,0,none⟩) (Nat.le_refl _) (.int .i64 0)).setCell (p:=⟨w.heap.size,1,none⟩) (Nat.le_refl _) (.string ⟨#[]⟩)).setCell (p:=⟨w.heap.size,2,none⟩) (Nat.le_refl _) (.int .i64 0))
  go_wp2_with fail
  have z0:=cell_h (HK9.out (.int .i64 0) (.string ⟨#[]⟩) (.int .i64 0)) 0 (v:=.int .i64 0) rfl
  have z1:=cell_h (HK9.out (.int .i64 0) (.string ⟨#[]⟩) (.int .i64 0)) 1 (v:=.string ⟨#[]⟩) rfl
  have z2:=cell_h (HK9.out (.int .i64 0) (.string ⟨#[]⟩) (.int .i64 0)) 2 (v:=.int .i64 0) rfl
  refine bodyPost_ret (v:=.tuple #[.agg #[.int .i64 0,.string ⟨#[]⟩,.int .i64 0],.bool false]) (by simp [results,Tryz.results53,go_sem,z0,z1,z2]) rfl ⟨by rw [HV.out];rfl,hb2.out⟩
open Go.RowKit
def sumV (field:ByteArray) (d:EvD):Int:=match findF d.fields field with
 | none => 0
 | some v => if v.kind = 1 then 0 else v.num
def sumF (field:ByteArray) (es:List EvD):Int:=(es.map (sumV field)).sum
theorem sumF_succ {field:ByteArray} {es:List EvD} {i:Nat} (h:i < es.length):sumF field (es.take (i + 1)) = sumF field (es.take i) + sumV field es[i]:=by
 unfold sumF
 rw [List.take_succ_eq_append_getElem h,List.map_append,List.sum_append]
 simp
theorem evE_fds {d:EvD} (h:evE okT d = 0):fdsE okT d.fields = 0:=by
 unfold evE at h
 split at h
 ·cases h
 ·split at h
  ·cases h
  ·split at h
   ·rename_i g;exact absurd h g
   ·exact h
theorem sumV_le {field:ByteArray} {d:EvD} (h:evE okT d = 0):-1000000000000 ≤ sumV field d ∧ sumV field d ≤ 1000000000000:=by
 obtain ⟨-,-,hf⟩:=fds_right (evE_fds h)
 unfold sumV
 cases e:findF d.fields field with
 | none => exact ⟨by show (-1000000000000:Int) ≤ 0;omega,by show (0:Int) ≤ _;omega⟩
 | some v =>
  show -1000000000000 ≤ (if v.kind = 1 then 0 else v.num) ∧ (if v.kind = 1 then 0 else v.num) ≤ 1000000000000
  by_cases k:v.kind = 1
  ·rw [if_pos k];omega
  ·rw [if_neg k]
   unfold findF at e
   cases e2:d.fields.find? (fun f => f.name.toList == field.toList) with
   | none => rw [e2] at e;cases e
   | some f =>
    rw [e2] at e
    have hv:f.v = v:=by simpa using e
    have:=(hf f (List.mem_of_find?_eq_some e2)).2
    rw [hv] at this
    unfold valErr at this
    rw [if_neg k] at this
    by_cases g0:v.kind = 2 ∨ v.kind = 3 ∨ v.kind = 4
    ·rw [if_pos g0] at this
     by_cases g2:v.text.size ≠ 0
     ·rw [if_pos g2] at this;cases this
     ·rw [if_neg g2] at this
      by_cases g3:(if v.kind = 2 then (-1000000000000:Int) else 0) ≤ v.num ∧ v.num ≤ (if v.kind = 2 then 1000000000000 else if v.kind = 3 then 1 else 4321439)
      ·obtain ⟨a,b⟩:=g3
       rcases g0 with g | g | g
       ·rw [if_pos g] at a b;omega
       ·rw [if_neg (by omega)] at a b;rw [if_pos g] at b;omega
       ·rw [if_neg (by omega)] at a b;rw [if_neg (by omega)] at b;omega
      ·rw [if_neg g3] at this;cases this
    ·rw [if_neg g0] at this;cases this
theorem sumF_le {field:ByteArray} {es:List EvD} (h:∀ d ∈ es,evE okT d = 0) (i:Nat):-1000000000000 * (i:Int) ≤ sumF field (es.take i) ∧ sumF field (es.take i) ≤ 1000000000000 * (i:Int):=by
 induction i with
 | zero => simp [sumF]
 | succ i ih =>
  by_cases c:i < es.length
  ·rw [sumF_succ c]
   have:=sumV_le (field:=field) (h _ (List.getElem_mem c))
   omega
  ·rw [List.take_of_length_le (by omega)]
   rw [List.take_of_length_le (by omega)] at ih
   omega
def SumP (n:Int) (w:World) (e:Ending) (w':World):Prop:=e = .returned (.tuple #[.int .i64 n,.int .i64 0]) ∧ Below w.heap.size w w'
set_option maxHeartbeats 8000000 in
set_option maxRecDepth 100000 in
theorem sum_any (H:Frz) (hU:UtfIn H) (hM:MLen H) (A:Option Addr) (cap:Nat) (es:List EvD) (name field:ByteArray) (x:WinD) (w:World) (hH:H.In w) (hR:Rw H A 6 fEv es) (hI:∀ d ∈ es,EvIn H d) (hl:es.length ≤ 1000) (hr:RightEs es) (hx:WinOk x) (hk:isKey name = true ∧ name.size ≤ 1000) (hk2:isKey field = true ∧ field.size ≤ 1000) :
  Calls Tryz.prog 17 #[.slice A es.length cap,.string name,.string field,.agg #[.int .i64 x.fr,.int .i64 x.til]] w (SumP (sumF field (namedF es name x)) w):=by
 have z0:(w.alloc (.cells #[.int .i64 x.fr,.int .i64 x.til] 35)).cell? ⟨w.heap.size,0,none⟩ = some (.int .i64 x.fr):=newc 0 rfl
 have z1:(w.alloc (.cells #[.int .i64 x.fr,.int .i64 x.til] 35)).cell? ⟨w.heap.size,1,none⟩ = some (.int .i64 x.til):=newc 1 rfl
 have HBN:=Lib.hid (new1 (w:=w) (.cells #[.int .i64 x.fr,.int .i64 x.til] 35))
 have HB0:=Lib.hid HBN.out
 have HCN:=Lib.hid (fun g W (hW:H.In W) hn => checkNamed_ok H hU hM A cap es x g 2 [name,field] W hW hR hI hl hr hx hn (fun n h => by simp at h;rcases h with rfl | rfl;(· exact hk);exact hk2) (by simp))
 have HNM:=Lib.hid (fun W (hW:H.In W) => named_any H A cap es name x W hW hR (by omega))
 have HIN:=Lib.hid (hH.below HBN.out)
 have HIE:Hid (∀ d ∈ namedF es name x,EvIn H d ∧ evE okT d = 0):=fun d hd => ⟨hI d (List.mem_filter.1 hd).1,hr.one d (List.mem_filter.1 hd).1⟩
 have hnl:(namedF es name x).length ≤ 1000:=by have:=List.length_filter_le (inW name x) es;unfold namedF;omega
 clear hH hR hI hr hU hM hx hk hk2 HBN
 go_enter Tryz.func17,Tryz.ntmps17
 go_upto_region 1 with (fail)
 generalize w.alloc (.cells #[.int .i64 x.fr,.int .i64 x.til] 35) = W1 at *
 go_wp2_with fail
 refine (HCN.out W1.heap.size _ (HIN.out.alloc _) (two_names name field W1)).mono ?_
 rintro e W2 ⟨rfl,hb2⟩
 have hb12:=(new1 (w:=W1) (.cells #[.string name,.string field] 9)).trans (hb2.mono (by simp))
 have HB2:=Lib.hid (HB0.out.trans (hb12.mono HB0.out.size))
 have y0:=lift_cell z0 _ hb12
 have y1:=lift_cell z1 _ hb12
 have HIN2:=Lib.hid (HIN.out.below hb12)
 clear hb2 hb12 z0 z1 HCN HIN HB0
 go_wp2_with fail
 refine (HNM.out W2 HIN2.out).mono ?_
 rintro e W3 ⟨v,rfl,hO,hb3⟩
 generalize namedF es name x = nf at *
 obtain ⟨A5,c5,H5,rfl,-,p1,p2,hR5,-,-⟩:=hO.freeze H
 have le5:=p2 (fun g hg => HIN2.out.none_ (hO.lt hg).1)
 have HIN5:=Lib.hid (p1 (HIN2.out.below hb3))
 have HB3:=Lib.hid (HB2.out.trans (hb3.mono HB2.out.size))
 have HR5:=Lib.hid hR5
 have HI5:Hid (∀ d ∈ nf,EvIn H5 d):=fun d hd => ((HIE.out d hd).1).le le5
 have HSB:=Lib.hid (fun i => sumF_le (field:=field) (fun d hd => (HIE.out d hd).2) i)
 clear y0 y1 hO hb3 p1 p2 hR5 le5 HNM HIN2
 go_wp2_with fail
 go_loopw [11,30] (fun ts t wr => ∃ i:Nat,i ≤ nf.length ∧ t = .int .i64 i ∧ ts = .int .i64 (sumF field (nf.take i)) ∧ Hid (Below W3.heap.size W3 wr)) (fun _ t _ => nf.length - (intOf t).toNat)
 case atStart => exact ⟨0,by omega,rfl,rfl,Below.refl _ _⟩
 case round =>
  obtain ⟨i,hi,rfl,rfl,hb⟩:=hrel
  by_cases hlt:i < nf.length
  ·have hin:=HIN5.out.below hb.out
   obtain ⟨b,off,rfl,hbl,hc⟩:=HR5.out.at_ hin hlt (by omega)
   have c0:wr.cell? ⟨b,off + i * 6,none⟩ = some (.string nf[i].id):=hc 0 (by omega)
   have c1:wr.cell? ⟨b,off + i * 6 + 1,none⟩ = some (.string nf[i].name):=hc 1 (by omega)
   have c2:wr.cell? ⟨b,off + i * 6 + 2,none⟩ = some (.int .i64 nf[i].at_):=hc 2 (by omega)
   have c3:wr.cell? ⟨b,off + i * 6 + 3,none⟩ = some (.int .i64 nf[i].kind):=hc 3 (by omega)
   have c4:wr.cell? ⟨b,off + i * 6 + 4,none⟩ = some (.string nf[i].text):=hc 4 (by omega)
   have c5:wr.cell? ⟨b,off + i * 6 + 5,none⟩ = some (.slice nf[i].fa nf[i].fields.length nf[i].fc):=hc 5 (by omega)
   have HEV:=Lib.hid (HI5.out _ (List.getElem_mem hlt))
   have HSO:=Lib.hid (fds_right (evE_fds (HIE.out _ (List.getElem_mem hlt)).2)).2.1
   have HSS:=Lib.hid (sumF_succ (field:=field) hlt)
   have hb0:=HSB.out i
   have hb1:=HSB.out (i + 1)
   rw [HSS.out] at hb1
   clear hc
   generalize nf[i] = d at *
   generalize sumF field (nf.take i) = su at *
   have HFD:=Lib.hid (fun W (hW:H5.In W) => field_any H5 d.fa d.fc d.fields field W hW HEV.out.fds HSO.out (by have:=HEV.out.fl;omega))
   have z0:(wr.alloc (.cells #[.string d.id,.string d.name,.int .i64 d.at_,.int .i64 d.kind,.string d.text,.slice d.fa d.fields.length d.fc] 42)).cell? ⟨wr.heap.size,0,none⟩ = some (.string d.id):=newc 0 rfl
   have z1:(wr.alloc (.cells #[.string d.id,.string d.name,.int .i64 d.at_,.int .i64 d.kind,.string d.text,.slice d.fa d.fields.length d.fc] 42)).cell? ⟨wr.heap.size,1,none⟩ = some (.string d.name):=newc 1 rfl
   have z2:(wr.alloc (.cells #[.string d.id,.string d.name,.int .i64 d.at_,.int .i64 d.kind,.string d.text,.slice d.fa d.fields.length d.fc] 42)).cell? ⟨wr.heap.size,2,none⟩ = some (.int .i64 d.at_):=newc 2 rfl
   have z3:(wr.alloc (.cells #[.string d.id,.string d.name,.int .i64 d.at_,.int .i64 d.kind,.string d.text,.slice d.fa d.fields.length d.fc] 42)).cell? ⟨wr.heap.size,3,none⟩ = some (.int .i64 d.kind):=newc 3 rfl
   have z4:(wr.alloc (.cells #[.string d.id,.string d.name,.int .i64 d.at_,.int .i64 d.kind,.string d.text,.slice d.fa d.fields.length d.fc] 42)).cell? ⟨wr.heap.size,4,none⟩ = some (.string d.text):=newc 4 rfl
   have z5:(wr.alloc (.cells #[.string d.id,.string d.name,.int .i64 d.at_,.int .i64 d.kind,.string d.text,.slice d.fa d.fields.length d.fc] 42)).cell? ⟨wr.heap.size,5,none⟩ = some (.slice d.fa d.fields.length d.fc):=newc 5 rfl
   have HBN:=Lib.hid (new1 (w:=wr) (.cells #[.string d.id,.string d.name,.int .i64 d.at_,.int .i64 d.kind,.string d.text,.slice d.fa d.fields.length d.fc] 42))
   have HB5:=Lib.hid (hb.out.trans (HBN.out.mono hb.out.size))
   have HIN6:=Lib.hid (hin.below HBN.out)
   clear HBN hb hin
   go_upto_region 8 with (fail)
   clear c0 c1 c2 c3 c4 c5
   generalize wr.alloc (.cells #[.string d.id,.string d.name,.int .i64 d.at_,.int .i64 d.kind,.string d.text,.slice d.fa d.fields.length d.fc] 42) = W5 at *
   go_wp2_with fail
   refine (HFD.out W5 HIN6.out).mono ?_
   rintro e W6 ⟨rfl,hb6⟩
   have HB6:=Lib.hid (HB5.out.trans (hb6.mono HB5.out.size))
   clear hb6 z0 z1 z2 z3 z4 z5 HFD
   have hsv:sumV field d = match findF d.fields field with | none => 0 | some v => if v.kind = 1 then 0 else v.num:=rfl
   have HSV:=Lib.hid hsv
   clear hsv
   cases hf:findF d.fields field with
   | none =>
    have HE:Hid (sumF field (nf.take (i + 1)) = su):=by
     have h1:=HSS.out
     have h2:=HSV.out
     rw [hf] at h2
     simp only at h2
     rw [h2] at h1
     show _ = _
     omega
    rw [show vO none = .agg #[.int .i64 0,.string ⟨#[]⟩,.int .i64 0] from rfl]
    have HB7:=Lib.hid (HB6.out.trans ((new1 (w:=W6) (.cells #[.int .i64 0,.string ⟨#[]⟩,.int .i64 0] 110)).mono HB6.out.size))
    clear hf HSS HSV hb0 hb1
    go_wp2_with fail
    go_roundw
    case rel => exact ⟨i + 1,by omega,by go_num,by rw [HE.out],HB7⟩
    case measure => simp [intOf];omega
   | some v =>
    have HSV2:Hid (sumV field d = if v.kind = 1 then 0 else v.num):=by
     have h2:=HSV.out
     rw [hf] at h2
     exact h2
    rw [show vO (some v) = .agg #[.int .i64 v.kind,.string v.text,.int .i64 v.num] from rfl]
    have HB7:=Lib.hid (HB6.out.trans ((new1 (w:=W6) (.cells #[.int .i64 v.kind,.string v.text,.int .i64 v.num] 110)).mono HB6.out.size))
    clear hf HSV
    by_cases k:v.kind = 1
    ·have HE:Hid (sumF field (nf.take (i + 1)) = su):=by
      have h1:=HSS.out
      rw [HSV2.out,if_pos k] at h1
      show _ = _
      omega
     have k1:(v.kind != 1) = false:=by simpa using k
     clear HSS HSV2 hb0 hb1 k
     go_wp2_with fail
     go_roundw
     case rel => exact ⟨i + 1,by omega,by go_num,by rw [HE.out],HB7⟩
     case measure => simp [intOf];omega
    ·have HE:Hid (sumF field (nf.take (i + 1)) = su + v.num):=by
      have h1:=HSS.out
      rw [HSV2.out,if_neg k] at h1
      exact h1
     have k1:(v.kind != 1) = true:=by simpa using k
     have wn:IntKind.i64.wrap (su + v.num) = su + v.num:=IntWalk.i64_in _ (by have h2:=HSV2.out;rw [if_neg k] at h2;omega)
     clear HSS HSV2 k
     go_wp2_with fail
     go_roundw
     case rel => exact ⟨i + 1,by omega,by go_num,by rw [HE.out],HB7⟩
     case measure => simp [intOf];omega
  ·have hie:i = nf.length:=by omega
   subst hie
   have HFB:=Lib.hid (HB3.out.trans (hb.out.mono HB3.out.size))
   rw [List.take_length]
   clear hb
   go_wp2_with fail
   go_ret2
   exact ⟨rfl,HFB.out⟩
end Go.Proofs.YtfmnlpmgakgleaaGreatDoor
