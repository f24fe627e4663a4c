/- Texts of this claim, put together: MakeJr. -/
import Derived.Test.YtbidhpgjmcedaaaGreatDoorGBI
import Derived.Test.YtbidhpgjmcedaaaGreatDoorGAQ
namespace Go.Proofs.YtbidhpgjmcedaaaGreatDoor
set_option linter.unusedVariables false
open Go.RowKit
theorem infoSur9 : (Tryz.prog.info? 210).map (fun i => (i.zero,i.size,i.bytes)) = some (some (.agg #[.string ⟨#[]⟩,.int .i64 0,.slice none 0 0]),3,48):=by kernel_rfl
set_option maxHeartbeats 8000000 in
set_option maxRecDepth 100000 in
theorem Lw.joinRules {w W : World} {bs K : Nat} {H : Frz} (h : Lw w bs K H W) (hK : K ≤ 200000) (hP : PoolIn H) (hN : NamesIn H) :
  Calls Tryz.prog 78 #[.pointer (some ⟨bs,0,none⟩)] W (JrPost w bs K H W):=by
 obtain ⟨i0,hi0,hz0,hz1,hz2⟩:=info_parts infoId9
 have hbs:=h.lt
 have L1:=Lib.hid (h.alloc (.cells #[.slice none 0 0,.int .i64 0,.slice none 0 0,.slice none 0 0] 44))
 have HK:=Lib.hid (heap_alloc_new W (.cells #[.slice none 0 0,.int .i64 0,.slice none 0 0,.slice none 0 0] 44))
 have HG:=Lib.hid (grown_alloc (w:=W) (.cells #[.slice none 0 0,.int .i64 0,.slice none 0 0,.slice none 0 0] 44) (some bs))
 have HH:=Lib.hid (h.fin.none_ (Nat.le_refl W.heap.size))
 have HP:=Lib.hid hP
 have HN:=Lib.hid hN
 obtain ⟨u0,hu9,hu0,hu1,hu2⟩:=info_parts infoSur9
 have HU0:=Lib.hid hu9
 have HI0:=Lib.hid hi0
 clear h hP hN hu9 hi0
 go_enter Tryz.func78,Tryz.ntmps78
 go_upto_region 1 with (fail)
 generalize W.alloc (.cells #[.slice none 0 0,.int .i64 0,.slice none 0 0,.slice none 0 0] 44) = W1 at *
 have hs1 : W.heap.size < W1.heap.size:=lt_of_heap HK.out
 refine wp_region_conc 20 127 (φJ bs W1.heap.size) (fun n W' => JW w bs K H W1 n W') (fun a b => a.grownBy b (some bs)) (by kernel_rfl) (by kernel_rfl) (by rfl) ⟨(L1.out.call (Below.refl _ _).drew).more (by omega),vm_below (Below.refl _ _).drew⟩ φJ_mono ?_ ?_
 ·intro n o hn ho a W2 kk hkk hJ hkn
  have hcs : n = 0 ∨ n = 1 ∨ n = 2 ∨ n = 3 ∨ n = 4 ∨ n = 5 ∨ n = 6 ∨ n = 7 ∨ n = 8 ∨ n = 9 ∨ n = 10 ∨ n = 11 ∨ n = 12 ∨ n = 13 ∨ n = 14 ∨ n = 15 ∨ n = 16 ∨ n = 17 ∨ n = 18 ∨ n = 19:=by omega
  have hB0:=hJ.g.size
  have hbl:=hJ.lw.lt
  rcases hcs with rfl | rfl | rfl | rfl | rfl | rfl | rfl | rfl | rfl | rfl | rfl | rfl | rfl | rfl | rfl | rfl | rfl | rfl | rfl | rfl
  ·obtain rfl:=Option.some.inj ho
   clear hkn ho
   simp only [OpV,execOp]
   simp [go_sem]
   exact ⟨KX.new [1,2] (by decide) hbl hB0 _ rfl _ rfl,hJ.alloc _,grown_alloc _ _⟩
  ·obtain rfl:=Option.some.inj ho
   clear hkn ho
   simp only [OpV,execOp]
   simp [go_sem]
   exact ⟨KX.new [1,2,3,4] (by decide) hbl hB0 _ rfl _ rfl,hJ.alloc _,grown_alloc _ _⟩
  ·obtain rfl:=Option.some.inj ho
   clear hkn ho
   simp only [OpV,execOp]
   simp [go_sem]
   exact ⟨KX.new [1] (by decide) hbl hB0 _ rfl _ rfl,hJ.alloc _,grown_alloc _ _⟩
  ·obtain rfl:=Option.some.inj ho
   clear hkn ho
   simp only [OpV,execOp]
   simp [go_sem]
   exact ⟨KX.new [2,3] (by decide) hbl hB0 _ rfl _ rfl,hJ.alloc _,grown_alloc _ _⟩
  ·obtain rfl:=Option.some.inj ho
   clear hkn ho
   simp only [OpV,execOp]
   simp [go_sem]
   exact ⟨KX.new [4] (by decide) hbl hB0 _ rfl _ rfl,hJ.alloc _,grown_alloc _ _⟩
  ·obtain rfl:=Option.some.inj ho
   have k0 : KX bs W1.heap.size (a.tmps.getD 7 undef) W2:=hkn 7 (by decide)
   have k1 : KX bs W1.heap.size (a.tmps.getD 8 undef) W2:=hkn 8 (by decide)
   have k2 : KX bs W1.heap.size (a.tmps.getD 9 undef) W2:=hkn 9 (by decide)
   have k3 : KX bs W1.heap.size (a.tmps.getD 10 undef) W2:=hkn 10 (by decide)
   have k4 : KX bs W1.heap.size (a.tmps.getD 11 undef) W2:=hkn 11 (by decide)
   obtain ⟨v0,h0⟩ : ∃ v,a.tmps.getD 7 undef = v:=⟨_,rfl⟩
   obtain ⟨v1,h1⟩ : ∃ v,a.tmps.getD 8 undef = v:=⟨_,rfl⟩
   obtain ⟨v2,h2⟩ : ∃ v,a.tmps.getD 9 undef = v:=⟨_,rfl⟩
   obtain ⟨v3,h3⟩ : ∃ v,a.tmps.getD 10 undef = v:=⟨_,rfl⟩
   obtain ⟨v4,h4⟩ : ∃ v,a.tmps.getD 11 undef = v:=⟨_,rfl⟩
   rw [h0] at k0
   rw [h1] at k1
   rw [h2] at k2
   rw [h3] at k3
   rw [h4] at k4
   have hc : ∀ z,z < 5 → KC bs W1.heap.size W2.heap.size z (W2.alloc (.cells #[v0,v1,v2,v3,v4] 22)):=by
    intro z hz
    have gr:=grown_alloc (w:=W2) (.cells #[v0,v1,v2,v3,v4] 22) (some bs)
    have hh : (W2.alloc (.cells #[v0,v1,v2,v3,v4] 22)).heap[W2.heap.size]? = some (.cells #[v0,v1,v2,v3,v4] 22 (0,0)):=heap_at rfl
    match z,hz with
    | 0,_ => exact ⟨by omega,_,_,v0,hh,rfl,k0.keep gr⟩
    | 1,_ => exact ⟨by omega,_,_,v1,hh,rfl,k1.keep gr⟩
    | 2,_ => exact ⟨by omega,_,_,v2,hh,rfl,k2.keep gr⟩
    | 3,_ => exact ⟨by omega,_,_,v3,hh,rfl,k3.keep gr⟩
    | 4,_ => exact ⟨by omega,_,_,v4,hh,rfl,k4.keep gr⟩
   obtain ⟨l0,-,q0,rfl,-⟩:=k0
   obtain ⟨l1,-,q1,rfl,-⟩:=k1
   obtain ⟨l2,-,q2,rfl,-⟩:=k2
   obtain ⟨l3,-,q3,rfl,-⟩:=k3
   obtain ⟨l4,-,q4,rfl,-⟩:=k4
   replace h0:=slotA_of h0
   replace h1:=slotA_of h1
   replace h2:=slotA_of h2
   replace h3:=slotA_of h3
   replace h4:=slotA_of h4
   clear hkn ho
   simp only [OpV,execOp]
   simp [go_sem,h0,h1,h2,h3,h4]
   exact ⟨⟨W2.heap.size,rfl,hc⟩,hJ.alloc _,grown_alloc _ _⟩
  ·obtain rfl:=Option.some.inj ho
   exact ⟨hkn 0 (by decide),hJ.stay,World.grownBy.refl _ _⟩
  ·obtain rfl:=Option.some.inj ho
   have h1:=slotA_of (hkn 13 (by decide) : a.tmps.getD 13 undef = .pointer (some ⟨bs,0,none⟩))
   clear hkn ho
   simp only [OpV,execOp]
   simp [go_sem,h1]
   exact (hJ.lw.next' 5 (by omega) (by omega) (by omega)).mono fun e w'' ⟨z,he,z0,z1,L',g',_⟩ => ⟨_,he,(by obtain ⟨y,rfl⟩:=Int.eq_ofNat_of_zero_le z0; exact ⟨y,rfl,by omega⟩),hJ.asked L' (by omega) g',g'⟩
  ·obtain rfl:=Option.some.inj ho
   obtain ⟨g,h1,hc⟩ : ∃ g,a.tmps.getD 12 undef = .slice (some ⟨g,0,none⟩) 5 5 ∧ ∀ z,z < 5 → KC bs W1.heap.size g z W2:=hkn 12 (by decide)
   obtain ⟨z,h2,hz⟩ : ∃ z : Nat,a.tmps.getD 14 undef = .int .i64 (z : Int) ∧ z < 5:=hkn 14 (by decide)
   replace h1:=slotA_of h1
   replace h2:=slotA_of h2
   clear hkn ho
   simp only [OpV,execOp]
   have hz2 : (z : Int) < 5:=by omega
   simp [go_sem,h1,h2,hz2]
   exact ⟨⟨g,z,rfl,hc z hz⟩,hJ.stay,World.grownBy.refl _ _⟩
  ·obtain rfl:=Option.some.inj ho
   obtain ⟨g,z,h1,hc⟩ : ∃ g z : Nat,a.tmps.getD 15 undef = .pointer (some ⟨g,z,none⟩) ∧ KC bs W1.heap.size g z W2:=hkn 15 (by decide)
   obtain ⟨v,hv,hk⟩:=hc.cell
   have hk2:=hk
   obtain ⟨l,-,q,rfl,-⟩:=hk2
   replace h1:=slotA_of h1
   clear hkn ho hc
   simp only [OpV,execOp]
   simp [go_sem,h1,hv]
   exact ⟨hk,hJ.stay,World.grownBy.refl _ _⟩
  ·obtain rfl:=Option.some.inj ho
   exact ⟨hkn 0 (by decide),hJ.stay,World.grownBy.refl _ _⟩
  ·obtain rfl:=Option.some.inj ho
   clear hkn ho
   simp only [OpV,execOp]
   simp [go_sem]
   exact ⟨⟨W2.heap.size,rfl,AtM.new _ hbl⟩,hJ.alloc _,grown_alloc _ _⟩
  ·obtain rfl:=Option.some.inj ho
   have h1:=slotA_of (hkn 17 (by decide) : a.tmps.getD 17 undef = .pointer (some ⟨bs,0,none⟩))
   obtain ⟨g,h2,h3⟩ : ∃ g,a.tmps.getD 18 undef = .slice (some ⟨g,0,none⟩) 4 4 ∧ AtM bs W2 g (.cells #[.int .i64 2,.int .i64 3,.int .i64 4,.int .i64 2000] 3 (0,0)):=hkn 18 (by decide)
   replace h2:=slotA_of h2
   clear hkn ho
   simp only [OpV,execOp]
   simp [go_sem,h1,h2]
   exact (hJ.lw.pick (some ⟨g,0,none⟩) 4 [2,3,4,2000] (Ints.of_row h3.2 rfl) (fun b off e => by injection e with e; injection e with e1 e2; rw [← e1]; exact h3.1) (by simp) (by simp) (by omega)).mono fun e w'' ⟨z,he,hz,L',g',_⟩ => ⟨_,he,⟨z,rfl⟩,hJ.asked L' (by omega) g',g'⟩
  ·obtain rfl:=Option.some.inj ho
   exact ⟨hkn 0 (by decide),hJ.stay,World.grownBy.refl _ _⟩
  ·obtain rfl:=Option.some.inj ho
   exact ⟨hkn 0 (by decide),hJ.stay,World.grownBy.refl _ _⟩
  ·obtain rfl:=Option.some.inj ho
   clear hkn ho
   simp only [OpV,execOp]
   simp [go_sem]
   exact ⟨⟨W2.heap.size,rfl,AtM.new _ hbl⟩,hJ.alloc _,grown_alloc _ _⟩
  ·obtain rfl:=Option.some.inj ho
   have h1:=slotA_of (hkn 21 (by decide) : a.tmps.getD 21 undef = .pointer (some ⟨bs,0,none⟩))
   obtain ⟨g,h2,h3⟩ : ∃ g,a.tmps.getD 22 undef = .slice (some ⟨g,0,none⟩) 5 5 ∧ AtM bs W2 g (.cells #[.int .i64 0,.int .i64 0,.int .i64 0,.int .i64 1,.int .i64 2] 3 (0,0)):=hkn 22 (by decide)
   replace h2:=slotA_of h2
   clear hkn ho
   simp only [OpV,execOp]
   simp [go_sem,h1,h2]
   exact (hJ.lw.pick (some ⟨g,0,none⟩) 5 [0,0,0,1,2] (Ints.of_row h3.2 rfl) (fun b off e => by injection e with e; injection e with e1 e2; rw [← e1]; exact h3.1) (by simp) (by simp) (by omega)).mono fun e w'' ⟨z,he,hz,L',g',_⟩ => ⟨_,he,(by have hz9 : 0 ≤ z ∧ z ≤ 2:=(by simp at hz; omega); obtain ⟨y,rfl⟩:=Int.eq_ofNat_of_zero_le hz9.1; exact ⟨y,rfl,by omega⟩),hJ.asked L' (by omega) g',g'⟩
  ·obtain rfl:=Option.some.inj ho
   have h1:=slotA_of (hkn 20 (by decide) : a.tmps.getD 20 undef = .pointer (some ⟨bs,0,none⟩))
   obtain ⟨z,h2,hz⟩ : ∃ z : Nat,a.tmps.getD 23 undef = .int .i64 (z : Int) ∧ z ≤ 2:=hkn 23 (by decide)
   replace h2:=slotA_of h2
   clear hkn ho
   simp only [OpV,execOp]
   simp [go_sem,h1,h2]
   exact (hJ.lw.ids (by omega) HP.out z (by omega)).mono fun e w'' ⟨v,ds,he,hm,hl,hok⟩ => ⟨_,he,⟨ds,by omega,hm.1.row.mono hB0,by omega,hok⟩,hJ.asked (k:=60) (hm.lw.more (by omega)) (by omega) hm.2,hm.2⟩
  ·obtain rfl:=Option.some.inj ho
   have k1 : KX bs W1.heap.size (a.tmps.getD 16 undef) W2:=hkn 16 (by decide)
   obtain ⟨z,h2⟩ : ∃ z : Int,a.tmps.getD 19 undef = .int .i64 z:=hkn 19 (by decide)
   obtain ⟨ds,k3⟩ : ∃ ds,IdsV bs W1.heap.size (a.tmps.getD 24 undef) ds W2:=hkn 24 (by decide)
   obtain ⟨v1,h1⟩ : ∃ v,a.tmps.getD 16 undef = v:=⟨_,rfl⟩
   obtain ⟨v3,h3⟩ : ∃ v,a.tmps.getD 24 undef = v:=⟨_,rfl⟩
   rw [h1] at k1
   rw [h3] at k3
   have k1':=k1
   obtain ⟨l,-,q,rfl,-⟩:=k1'
   obtain ⟨A,c,rfl,-⟩:=k3.2.1.slice
   replace h1:=slotA_of h1
   replace h2:=slotA_of h2
   replace h3:=slotA_of h3
   clear hkn ho
   simp only [OpV,execOp]
   simp [go_sem,h1,h2,h3]
   exact ⟨⟨_,z,_,ds,rfl,k1,k3⟩,hJ.stay,World.grownBy.refl _ _⟩
  ·obtain rfl:=Option.some.inj ho
   clear hkn ho
   simp only [OpV,execOp]
   simp [go_sem]
   exact ⟨⟨W2.heap.size,rfl,hB0,AtM.new _ hbl⟩,hJ.alloc _,grown_alloc _ _⟩
 ·intro x W5 hJ5 hφ
  obtain ⟨xk,z,xw,ds,e9,hxk,hxw⟩ : ∃ (xk : Value) (z : Int) (xw : Value) (ds : List IdD),x 18 = .agg #[xk,.int .i64 z,xw,.slice none 0 0] ∧ KX bs W1.heap.size xk W5 ∧ IdsV bs W1.heap.size xw ds W5:=hφ 18 (by omega)
  obtain ⟨g,e10,hBg,hat⟩ : ∃ g,x 19 = .pointer (some ⟨g,0,none⟩) ∧ W1.heap.size ≤ g ∧ AtM bs W5 g (.cells #[.slice none 0 0,.int .i64 0,.slice none 0 0,.slice none 0 0] 44 (0,0)):=hφ 19 (by omega)
  obtain ⟨H1,d,ek,ez,ew,hsa,hsu,hsc,hwl,hD0⟩:=JM.start (z:=z) hbs HK.out HG.out L1.out.fin HH.out hJ5 hxk hxw hBg hat
  rw [ek,ez,ew] at hD0
  rw [ek,ez,ew] at e9
  have D0:=Lib.hid hD0
  have c0:=cell_h hat.2 0 (v:=.slice none 0 0) rfl
  have c1:=cell_h hat.2 1 (v:=.int .i64 0) rfl
  have c2:=cell_h hat.2 2 (v:=.slice none 0 0) rfl
  have c3:=cell_h hat.2 3 (v:=.slice none 0 0) rfl
  have f0:=froz_h hat.2 0
  have f1:=froz_h hat.2 1
  have f2:=froz_h hat.2 2
  have f3:=froz_h hat.2 3
  clear hφ hJ5 hat hBg hxk hxw hD0 ek ez ew L1 HK HG HH
  simp only [List.drop_succ_cons,List.drop_zero,List.take_succ_cons,List.take_zero,putAll,Nat.reduceAdd,e9,e10]
  clear e9 e10
  generalize d.most = mo at *
  generalize x 0 = y0
  generalize x 1 = y1
  generalize x 2 = y2
  generalize x 3 = y3
  generalize x 4 = y4
  generalize x 5 = y5
  generalize x 6 = y6
  generalize x 7 = y7
  generalize x 8 = y8
  generalize x 9 = y9
  generalize x 10 = y10
  generalize x 11 = y11
  generalize x 12 = y12
  generalize x 13 = y13
  generalize x 14 = y14
  generalize x 15 = y15
  generalize x 16 = y16
  generalize x 17 = y17
  go_upto_region 2 with (fail)
  generalize (((W5.setCell ⟨g,0,none⟩ (.slice d.ka d.kinds.length d.kc)).setCell ⟨g,1,none⟩ (.int .i64 mo)).setCell ⟨g,2,none⟩ (.slice d.wa d.weaks.length d.wc)).setCell ⟨g,3,none⟩ (.slice none 0 0) = W6 at *
  clear c0 c1 c2 c3 f0 f1 f2 f3
  have hdl0 : d.surs.length ≤ 0:=by rw [hsu]; exact Nat.le_refl _
  clear hsa hsu hsc
  have n0 : W6.cell? ⟨0,0,none⟩ = some (.string ⟨#[97,103,101]⟩):=D0.out.lw.fin.cell ((HN.out.le D0.out.le) 0 (by decide))
  have n1 : W6.cell? ⟨0,1,none⟩ = some (.string ⟨#[99,105,116,121]⟩):=D0.out.lw.fin.cell ((HN.out.le D0.out.le) 1 (by decide))
  have n2 : W6.cell? ⟨0,2,none⟩ = some (.string ⟨#[106,111,105,110,101,100]⟩):=D0.out.lw.fin.cell ((HN.out.le D0.out.le) 2 (by decide))
  have n3 : W6.cell? ⟨0,3,none⟩ = some (.string ⟨#[110,97,109,101]⟩):=D0.out.lw.fin.cell ((HN.out.le D0.out.le) 3 (by decide))
  have n4 : W6.cell? ⟨0,4,none⟩ = some (.string ⟨#[112,108,97,110]⟩):=D0.out.lw.fin.cell ((HN.out.le D0.out.le) 4 (by decide))
  have n5 : W6.cell? ⟨0,5,none⟩ = some (.string ⟨#[118,105,112]⟩):=D0.out.lw.fin.cell ((HN.out.le D0.out.le) 5 (by decide))
  go_wp2_with fail
  clear n0 n1 n2 n3 n4 n5
  go_loopw [27] (fun t wr => ∃ (i : Nat) (H2 : Frz) (d : RulD),i ≤ 6 ∧ t = .int .i64 i ∧ Hid (JM w bs (K + 1400 + 10 * i) H H2 W g W.heap.size d wr) ∧ d.surs.length ≤ i ∧ d.weaks.length ≤ 2) (fun t _ => 6 - (intOf t).toNat)
  case atStart => exact ⟨0,H1,d,by omega,rfl,D0.out.more (by omega),hdl0,hwl⟩
  case round =>
   clear D0 hdl0 hwl
   obtain ⟨i,H2,d,hi,rfl,D,hdl,hwl⟩:=hrel
   by_cases hlt : i < 6
   ·have di : decide ((i : Int) < 6) = true:=by simp; omega
    obtain ⟨nm,hnm,hns⟩ : ∃ nm : ByteArray,(∀ W : World,(Instr.index 117 (.agg #[.string ⟨#[97,103,101]⟩,.string ⟨#[99,105,116,121]⟩,.string ⟨#[106,111,105,110,101,100]⟩,.string ⟨#[110,97,109,101]⟩,.string ⟨#[112,108,97,110]⟩,.string ⟨#[118,105,112]⟩]) (.int .i64 (i : Int))).run Tryz.prog W = .ok (.string nm) W) ∧ nm.size ≤ 1000:=by
     match i,hlt with
     | 0,_ => exact ⟨⟨#[97,103,101]⟩,fun W => by kernel_rfl,by decide⟩
     | 1,_ => exact ⟨⟨#[99,105,116,121]⟩,fun W => by kernel_rfl,by decide⟩
     | 2,_ => exact ⟨⟨#[106,111,105,110,101,100]⟩,fun W => by kernel_rfl,by decide⟩
     | 3,_ => exact ⟨⟨#[110,97,109,101]⟩,fun W => by kernel_rfl,by decide⟩
     | 4,_ => exact ⟨⟨#[112,108,97,110]⟩,fun W => by kernel_rfl,by decide⟩
     | 5,_ => exact ⟨⟨#[118,105,112]⟩,fun W => by kernel_rfl,by decide⟩
    go_wp2_with fail
    refine (D.out.lw.flip 2 (by omega) (by omega)).mono ?_
    rintro e W2 ⟨fb,rfl,Lq,gq,-⟩
    have D2:=Lib.hid (D.out.asked Lq gq)
    clear Lq gq D hnm
    cases fb with
    | false =>
     go_wp2_with fail
     go_roundw
     case rel => exact ⟨i + 1,H2,d,by omega,by go_num,D2.out.more (by omega),by omega,hwl⟩
     case measure => simp [intOf]; omega
    | true =>
     go_wp2_with fail
     refine (D2.out.lw.range 1 7 (by omega) (by omega) (by omega) (by omega)).mono ?_
     rintro e W3 ⟨z,rfl,z0,z1,Lq,gq,-⟩
     have D3:=Lib.hid (D2.out.asked Lq gq)
     clear Lq gq D2 z0 z1
     have D4:=Lib.hid (SX.new D3.out nm z (by omega))
     clear D3
     go_upto_region 7 with (fail)
     generalize W3.alloc (.cells #[.string nm,.int .i64 z,.slice none 0 0] 210) = W4 at *
     generalize W3.heap.size = xb at *
     have k1:=cell_h D4.out.blk 1 (v:=.int .i64 z) rfl
     go_upto_if 38 with (fail)
     clear k1
     obtain ⟨q,hq⟩ : ∃ q,(z == 5) = q:=⟨_,rfl⟩
     rw [hq]
     clear hq
     go_cut [] (fun wx => ∃ (H3 : Frz) (s : SurD),Hid (SX w bs (K + 1400 + 10 * i + 3) H H3 W g W.heap.size d xb s wx))
     case first =>
      cases q with
      | false =>
       go_wp2_with fail
       go_meet
       exact ⟨_,_,D4.out.more (by omega)⟩
      | true =>
       have hbs4 : bs < W4.heap.size:=D4.out.m.lw.lt
       have P0:=Lib.hid ((D4).out.put (.cells #[.string ⟨#[115,104,111,112]⟩] 9))
       have P1:=Lib.hid ((P0).out.put (.cells #[.string ⟨#[100,101,115,107]⟩,.string ⟨#[115,104,111,112]⟩] 9))
       have P2:=Lib.hid ((P1).out.put (.cells #[.string ⟨#[97,112,112]⟩,.string ⟨#[110,111,119,104,101,114,101]⟩,.string ⟨#[100,101,115,107]⟩] 9))
       have es1 : (W4.alloc (.cells #[.string ⟨#[115,104,111,112]⟩] 9)).heap.size = W4.heap.size + 1:=by simp
       have es2 : ((W4.alloc (.cells #[.string ⟨#[115,104,111,112]⟩] 9)).alloc (.cells #[.string ⟨#[100,101,115,107]⟩,.string ⟨#[115,104,111,112]⟩] 9)).heap.size = W4.heap.size + 1 + 1:=by simp
       rw [es1,es2] at P2
       have hq0 : (((H2.add (W4.heap.size) (.cells #[.string ⟨#[115,104,111,112]⟩] 9 (0,0))).add (W4.heap.size + 1) (.cells #[.string ⟨#[100,101,115,107]⟩,.string ⟨#[115,104,111,112]⟩] 9 (0,0))).add (W4.heap.size + 1 + 1) (.cells #[.string ⟨#[97,112,112]⟩,.string ⟨#[110,111,119,104,101,114,101]⟩,.string ⟨#[100,101,115,107]⟩] 9 (0,0))) (W4.heap.size) = some (.cells #[.string ⟨#[115,104,111,112]⟩] 9 (0,0)):=by
        rw [Frz.add_other (by omega)]; rw [Frz.add_other (by omega)]; exact Frz.add_at _ _ _
       have hq1 : (((H2.add (W4.heap.size) (.cells #[.string ⟨#[115,104,111,112]⟩] 9 (0,0))).add (W4.heap.size + 1) (.cells #[.string ⟨#[100,101,115,107]⟩,.string ⟨#[115,104,111,112]⟩] 9 (0,0))).add (W4.heap.size + 1 + 1) (.cells #[.string ⟨#[97,112,112]⟩,.string ⟨#[110,111,119,104,101,114,101]⟩,.string ⟨#[100,101,115,107]⟩] 9 (0,0))) (W4.heap.size + 1) = some (.cells #[.string ⟨#[100,101,115,107]⟩,.string ⟨#[115,104,111,112]⟩] 9 (0,0)):=by
        rw [Frz.add_other (by omega)]; exact Frz.add_at _ _ _
       have hq2 : (((H2.add (W4.heap.size) (.cells #[.string ⟨#[115,104,111,112]⟩] 9 (0,0))).add (W4.heap.size + 1) (.cells #[.string ⟨#[100,101,115,107]⟩,.string ⟨#[115,104,111,112]⟩] 9 (0,0))).add (W4.heap.size + 1 + 1) (.cells #[.string ⟨#[97,112,112]⟩,.string ⟨#[110,111,119,104,101,114,101]⟩,.string ⟨#[100,101,115,107]⟩] 9 (0,0))) (W4.heap.size + 1 + 1) = some (.cells #[.string ⟨#[97,112,112]⟩,.string ⟨#[110,111,119,104,101,114,101]⟩,.string ⟨#[100,101,115,107]⟩] 9 (0,0)):=by
        exact Frz.add_at _ _ _
       generalize hH7 : (((H2.add (W4.heap.size) (.cells #[.string ⟨#[115,104,111,112]⟩] 9 (0,0))).add (W4.heap.size + 1) (.cells #[.string ⟨#[100,101,115,107]⟩,.string ⟨#[115,104,111,112]⟩] 9 (0,0))).add (W4.heap.size + 1 + 1) (.cells #[.string ⟨#[97,112,112]⟩,.string ⟨#[110,111,119,104,101,114,101]⟩,.string ⟨#[100,101,115,107]⟩] 9 (0,0))) = H7 at P2 hq0 hq1 hq2
       have hs7 : (((W4.alloc (.cells #[.string ⟨#[115,104,111,112]⟩] 9)).alloc (.cells #[.string ⟨#[100,101,115,107]⟩,.string ⟨#[115,104,111,112]⟩] 9)).alloc (.cells #[.string ⟨#[97,112,112]⟩,.string ⟨#[110,111,119,104,101,114,101]⟩,.string ⟨#[100,101,115,107]⟩] 9)).heap.size = W4.heap.size + 1 + 1 + 1:=by simp
       obtain ⟨W7,hW7⟩ : ∃ W7,W7 = (((W4.alloc (.cells #[.string ⟨#[115,104,111,112]⟩] 9)).alloc (.cells #[.string ⟨#[100,101,115,107]⟩,.string ⟨#[115,104,111,112]⟩] 9)).alloc (.cells #[.string ⟨#[97,112,112]⟩,.string ⟨#[110,111,119,104,101,114,101]⟩,.string ⟨#[100,101,115,107]⟩] 9)):=⟨_,rfl⟩
       rw [← hW7] at P2 hs7
       have HB:=Lib.hid (heap_alloc_new W7 (.cells #[.slice none 0 0,.slice (some ⟨W4.heap.size,0,none⟩) 1 1,.slice (some ⟨W4.heap.size + 1,0,none⟩) 2 2,.slice (some ⟨W4.heap.size + 1 + 1,0,none⟩) 3 3] 186))
       have D8:=Lib.hid (P2.out.alloc (.cells #[.slice none 0 0,.slice (some ⟨W4.heap.size,0,none⟩) 1 1,.slice (some ⟨W4.heap.size + 1,0,none⟩) 2 2,.slice (some ⟨W4.heap.size + 1 + 1,0,none⟩) 3 3] 186))
       have HW7:=Lib.hid hW7
       have HQ : Hid (H7 (W4.heap.size) = some (.cells #[.string ⟨#[115,104,111,112]⟩] 9 (0,0)) ∧ H7 (W4.heap.size + 1) = some (.cells #[.string ⟨#[100,101,115,107]⟩,.string ⟨#[115,104,111,112]⟩] 9 (0,0)) ∧ H7 (W4.heap.size + 1 + 1) = some (.cells #[.string ⟨#[97,112,112]⟩,.string ⟨#[110,111,119,104,101,114,101]⟩,.string ⟨#[100,101,115,107]⟩] 9 (0,0))):=⟨hq0,hq1,hq2⟩
       have hlt7 : W4.heap.size + 1 + 1 + 1 < (W7.alloc (.cells #[.slice none 0 0,.slice (some ⟨W4.heap.size,0,none⟩) 1 1,.slice (some ⟨W4.heap.size + 1,0,none⟩) 2 2,.slice (some ⟨W4.heap.size + 1 + 1,0,none⟩) 3 3] 186)).heap.size:=by rw [← hs7]; simp
       have HS7:=Lib.hid hs7
       clear hW7 hH7 hs7 hq0 hq1 hq2 P0 P1 P2 es1 es2 D4
       go_wp2_with fail
       rw [← HW7.out]
       refine (D8.out.m.lw.next' 4 (by omega) (by omega) (by omega)).mono ?_
       rintro e W9 ⟨u9,rfl,u90,u91,Lq,gq,-⟩
       have D9:=Lib.hid (D8.out.asked Lq gq)
       have HB9 : Hid (W9.heap[W4.heap.size + 1 + 1 + 1]? = some (.cells #[.slice none 0 0,.slice (some ⟨W4.heap.size,0,none⟩) 1 1,.slice (some ⟨W4.heap.size + 1,0,none⟩) 2 2,.slice (some ⟨W4.heap.size + 1 + 1,0,none⟩) 3 3] 186 (0,0))):=by
        have h1:=HB.out
        rw [HS7.out] at h1
        exact (gq.block _ hlt7 (fun e => by injection e with e; omega)).trans h1
       clear Lq gq D8 HB HW7 hlt7 HS7
       have hcs9 : u9 = 0 ∨ u9 = 1 ∨ u9 = 2 ∨ u9 = 3:=by omega
       rcases hcs9 with rfl | rfl | rfl | rfl
       ·have cc:=cell_h HB9.out 0 (v:=.slice none 0 0) rfl
        have D10:=Lib.hid (D9.out.setSrc none 0 [] Rw.nil (Nat.le_refl _) (by show (0 : Nat) ≤ _; omega) (fun x hx => by cases hx))
        have x2:=cell_h D9.out.blk 2 (v:=.slice none 0 0) rfl
        have f2:=froz_h D9.out.blk 2
        clear D9 HB9 HQ
        go_wp2_with fail
        go_meet
        exact ⟨_,_,D10.out.more (by omega)⟩
       ·have cc:=cell_h HB9.out 1 (v:=.slice (some ⟨W4.heap.size,0,none⟩) 1 1) rfl
        have D10:=Lib.hid (D9.out.setSrc (some ⟨W4.heap.size,0,none⟩) 1 [⟨#[115,104,111,112]⟩] (rw_str [⟨#[115,104,111,112]⟩] rfl HQ.out.1) (Nat.le_refl _) (by show (1 : Nat) ≤ _; omega) (fun x hx => sizeKM hx (by decide +kernel)))
        have x2:=cell_h D9.out.blk 2 (v:=.slice none 0 0) rfl
        have f2:=froz_h D9.out.blk 2
        clear D9 HB9 HQ
        go_wp2_with fail
        go_meet
        exact ⟨_,_,D10.out.more (by omega)⟩
       ·have cc:=cell_h HB9.out 2 (v:=.slice (some ⟨W4.heap.size + 1,0,none⟩) 2 2) rfl
        have D10:=Lib.hid (D9.out.setSrc (some ⟨W4.heap.size + 1,0,none⟩) 2 [⟨#[100,101,115,107]⟩,⟨#[115,104,111,112]⟩] (rw_str [⟨#[100,101,115,107]⟩,⟨#[115,104,111,112]⟩] rfl HQ.out.2.1) (Nat.le_refl _) (by show (2 : Nat) ≤ _; omega) (fun x hx => sizeKM hx (by decide +kernel)))
        have x2:=cell_h D9.out.blk 2 (v:=.slice none 0 0) rfl
        have f2:=froz_h D9.out.blk 2
        clear D9 HB9 HQ
        go_wp2_with fail
        go_meet
        exact ⟨_,_,D10.out.more (by omega)⟩
       ·have cc:=cell_h HB9.out 3 (v:=.slice (some ⟨W4.heap.size + 1 + 1,0,none⟩) 3 3) rfl
        have D10:=Lib.hid (D9.out.setSrc (some ⟨W4.heap.size + 1 + 1,0,none⟩) 3 [⟨#[97,112,112]⟩,⟨#[110,111,119,104,101,114,101]⟩,⟨#[100,101,115,107]⟩] (rw_str [⟨#[97,112,112]⟩,⟨#[110,111,119,104,101,114,101]⟩,⟨#[100,101,115,107]⟩] rfl HQ.out.2.2) (Nat.le_refl _) (by show (3 : Nat) ≤ _; omega) (fun x hx => sizeKM hx (by decide +kernel)))
        have x2:=cell_h D9.out.blk 2 (v:=.slice none 0 0) rfl
        have f2:=froz_h D9.out.blk 2
        clear D9 HB9 HQ
        go_wp2_with fail
        go_meet
        exact ⟨_,_,D10.out.more (by omega)⟩
     case rest =>
      clear D4
      obtain ⟨H3,s,D9⟩:=hcut
      have x0:=cell_h D9.out.blk 0 (v:=.string s.name) rfl
      have x1:=cell_h D9.out.blk 1 (v:=.int .i64 s.how) rfl
      have x2:=cell_h D9.out.blk 2 (v:=.slice s.sa s.srcs.length s.sc) rfl
      have q3:=cell_h D9.out.m.blk 3 (v:=.slice d.sa d.surs.length d.sc) rfl
      have HOr:=Lib.hid D9.out.m.sv
      have HST:=Lib.hid (fun v' W' o g1 (at1 : v'.ownBlock = (Value.slice d.sa d.surs.length d.sc).ownBlock ∨ ∃ g,v'.ownBlock = some g ∧ wc.heap.size < g) => D9.out.m.appS (v':=v') (W':=W') (x:=s) o g1 (at1.imp (fun a => a) (fun ⟨q,a,b⟩ => ⟨q,a,by omega⟩)) D9.out.src D9.out.sz (by omega))
      have hB9:=D9.out.m.gr.size
      go_wp2_with (at_builtin; refine wpList_app_at rfl _ _ 42 rfl W.heap.size 210 u0 (.agg #[.string ⟨#[]⟩,.int .i64 0,.slice none 0 0]) 3 48 Tryz.underlying42 HU0.out hu0 hu1 hu2 rfl (by decide) fSur _ d.surs rfl HOr.out s #[.string s.name,.int .i64 s.how,.slice s.sa s.srcs.length s.sc] 210 rfl rfl (by simp [Value.oneCell']) (by omega) (by omega) hB9 ?_; intro v1 w2 o1 g1 b1 at1; obtain ⟨y3,fr3,A9,c9,rfl,hJ⟩:=HST.out v1 w2 o1 g1 at1; have CA:=Lib.hid hJ; clear o1 g1 b1 at1 HST HOr hJ)
      go_roundw
      case rel => exact ⟨i + 1,H3,_,by omega,by go_num,CA.out.more (by omega),by show (d.surs ++ [s]).length ≤ _; rw [List.length_append]; show d.surs.length + 1 ≤ _; omega,hwl⟩
      case measure => simp [intOf]; omega
   ·have hie : i = 6:=by omega
    subst hie
    go_wp2_with fail
    refine (D.out.lw.flip 20 (by omega) (by omega)).mono ?_
    rintro e W2 ⟨fb,rfl,Lq,gq,-⟩
    have D2:=Lib.hid (D.out.asked Lq gq)
    clear Lq gq D
    go_upto_if 56 with (fail)
    go_cut [] (fun wx => ∃ (H3 : Frz) (d : RulD),Hid (JM w bs (K + 1900) H H3 W g W.heap.size d wx) ∧ WkS d)
    case first =>
     cases fb with
     | false =>
      go_wp2_with fail
      go_meet
      exact ⟨_,_,D2.out.more (by omega),Or.inl (by omega)⟩
     | true =>
      go_wp2_with fail
      refine (D2.out.lw.next' 6 (by omega) (by omega) (by omega)).mono ?_
      rintro e W3 ⟨sw,rfl,sw0,sw1,Lq,gq,-⟩
      have D3:=Lib.hid (D2.out.asked Lq gq)
      clear Lq gq D2
      have hcs : sw = 0 ∨ sw = 1 ∨ sw = 2 ∨ sw = 3 ∨ sw = 4 ∨ (sw ≠ 0 ∧ sw ≠ 1 ∧ sw ≠ 2 ∧ sw ≠ 3 ∧ sw ≠ 4):=by omega
      rcases hcs with rfl | rfl | rfl | rfl | rfl | ⟨m0,m1,m2,m3,m4⟩
      ·skip
       have hbs4 : bs < W3.heap.size:=D3.out.lw.lt
       have P0:=Lib.hid ((D3).out.put2 (.cells #[.int .i64 2,.int .i64 1] 3))
       have P1:=Lib.hid ((P0).out.put2 (.cells #[.int .i64 0] 3))
       have P2:=Lib.hid ((P1).out.put2 (.cells #[.int .i64 5] 3))
       have P3:=Lib.hid ((P2).out.put2 (.cells #[.int .i64 1,.int .i64 1] 3))
       have es1 : (W3.alloc (.cells #[.int .i64 2,.int .i64 1] 3)).heap.size = W3.heap.size + 1:=by simp
       have es2 : ((W3.alloc (.cells #[.int .i64 2,.int .i64 1] 3)).alloc (.cells #[.int .i64 0] 3)).heap.size = W3.heap.size + 1 + 1:=by simp
       have es3 : (((W3.alloc (.cells #[.int .i64 2,.int .i64 1] 3)).alloc (.cells #[.int .i64 0] 3)).alloc (.cells #[.int .i64 5] 3)).heap.size = W3.heap.size + 1 + 1 + 1:=by simp
       rw [es1,es2,es3] at P3
       have hq0 : ((((H2.add (W3.heap.size) (.cells #[.int .i64 2,.int .i64 1] 3 (0,0))).add (W3.heap.size + 1) (.cells #[.int .i64 0] 3 (0,0))).add (W3.heap.size + 1 + 1) (.cells #[.int .i64 5] 3 (0,0))).add (W3.heap.size + 1 + 1 + 1) (.cells #[.int .i64 1,.int .i64 1] 3 (0,0))) (W3.heap.size) = some (.cells #[.int .i64 2,.int .i64 1] 3 (0,0)):=by
        rw [Frz.add_other (by omega)]; rw [Frz.add_other (by omega)]; rw [Frz.add_other (by omega)]; exact Frz.add_at _ _ _
       have hq1 : ((((H2.add (W3.heap.size) (.cells #[.int .i64 2,.int .i64 1] 3 (0,0))).add (W3.heap.size + 1) (.cells #[.int .i64 0] 3 (0,0))).add (W3.heap.size + 1 + 1) (.cells #[.int .i64 5] 3 (0,0))).add (W3.heap.size + 1 + 1 + 1) (.cells #[.int .i64 1,.int .i64 1] 3 (0,0))) (W3.heap.size + 1) = some (.cells #[.int .i64 0] 3 (0,0)):=by
        rw [Frz.add_other (by omega)]; rw [Frz.add_other (by omega)]; exact Frz.add_at _ _ _
       have hq2 : ((((H2.add (W3.heap.size) (.cells #[.int .i64 2,.int .i64 1] 3 (0,0))).add (W3.heap.size + 1) (.cells #[.int .i64 0] 3 (0,0))).add (W3.heap.size + 1 + 1) (.cells #[.int .i64 5] 3 (0,0))).add (W3.heap.size + 1 + 1 + 1) (.cells #[.int .i64 1,.int .i64 1] 3 (0,0))) (W3.heap.size + 1 + 1) = some (.cells #[.int .i64 5] 3 (0,0)):=by
        rw [Frz.add_other (by omega)]; exact Frz.add_at _ _ _
       have hq3 : ((((H2.add (W3.heap.size) (.cells #[.int .i64 2,.int .i64 1] 3 (0,0))).add (W3.heap.size + 1) (.cells #[.int .i64 0] 3 (0,0))).add (W3.heap.size + 1 + 1) (.cells #[.int .i64 5] 3 (0,0))).add (W3.heap.size + 1 + 1 + 1) (.cells #[.int .i64 1,.int .i64 1] 3 (0,0))) (W3.heap.size + 1 + 1 + 1) = some (.cells #[.int .i64 1,.int .i64 1] 3 (0,0)):=by
        exact Frz.add_at _ _ _
       generalize hH7 : ((((H2.add (W3.heap.size) (.cells #[.int .i64 2,.int .i64 1] 3 (0,0))).add (W3.heap.size + 1) (.cells #[.int .i64 0] 3 (0,0))).add (W3.heap.size + 1 + 1) (.cells #[.int .i64 5] 3 (0,0))).add (W3.heap.size + 1 + 1 + 1) (.cells #[.int .i64 1,.int .i64 1] 3 (0,0))) = H7 at P3 hq0 hq1 hq2 hq3
       have hs7 : ((((W3.alloc (.cells #[.int .i64 2,.int .i64 1] 3)).alloc (.cells #[.int .i64 0] 3)).alloc (.cells #[.int .i64 5] 3)).alloc (.cells #[.int .i64 1,.int .i64 1] 3)).heap.size = W3.heap.size + 1 + 1 + 1 + 1:=by simp
       obtain ⟨W7,hW7⟩ : ∃ W7,W7 = ((((W3.alloc (.cells #[.int .i64 2,.int .i64 1] 3)).alloc (.cells #[.int .i64 0] 3)).alloc (.cells #[.int .i64 5] 3)).alloc (.cells #[.int .i64 1,.int .i64 1] 3)):=⟨_,rfl⟩
       rw [← hW7] at P3 hs7
       have HB:=Lib.hid (heap_alloc_new W7 (.cells #[.slice none 0 0,.slice (some ⟨W3.heap.size,0,none⟩) 2 2,.slice (some ⟨W3.heap.size + 1,0,none⟩) 1 1,.slice (some ⟨W3.heap.size + 1 + 1,0,none⟩) 1 1,.slice (some ⟨W3.heap.size + 1 + 1 + 1,0,none⟩) 2 2] 22))
       have D8:=Lib.hid (P3.out.alloc (.cells #[.slice none 0 0,.slice (some ⟨W3.heap.size,0,none⟩) 2 2,.slice (some ⟨W3.heap.size + 1,0,none⟩) 1 1,.slice (some ⟨W3.heap.size + 1 + 1,0,none⟩) 1 1,.slice (some ⟨W3.heap.size + 1 + 1 + 1,0,none⟩) 2 2] 22))
       have HW7:=Lib.hid hW7
       have HQ : Hid (H7 (W3.heap.size) = some (.cells #[.int .i64 2,.int .i64 1] 3 (0,0)) ∧ H7 (W3.heap.size + 1) = some (.cells #[.int .i64 0] 3 (0,0)) ∧ H7 (W3.heap.size + 1 + 1) = some (.cells #[.int .i64 5] 3 (0,0)) ∧ H7 (W3.heap.size + 1 + 1 + 1) = some (.cells #[.int .i64 1,.int .i64 1] 3 (0,0))):=⟨hq0,hq1,hq2,hq3⟩
       have hlt7 : W3.heap.size + 1 + 1 + 1 + 1 < (W7.alloc (.cells #[.slice none 0 0,.slice (some ⟨W3.heap.size,0,none⟩) 2 2,.slice (some ⟨W3.heap.size + 1,0,none⟩) 1 1,.slice (some ⟨W3.heap.size + 1 + 1,0,none⟩) 1 1,.slice (some ⟨W3.heap.size + 1 + 1 + 1,0,none⟩) 2 2] 22)).heap.size:=by rw [← hs7]; simp
       have HS7:=Lib.hid hs7
       clear hW7 hH7 hs7 hq0 hq1 hq2 hq3 P0 P1 P2 P3 es1 es2 es3 D3
       go_wp2_with fail
       rw [← HW7.out]
       refine (D8.out.lw.next' 5 (by omega) (by omega) (by omega)).mono ?_
       rintro e W9 ⟨u9,rfl,u90,u91,Lq,gq,-⟩
       have D9:=Lib.hid (D8.out.asked Lq gq)
       have HB9 : Hid (W9.heap[W3.heap.size + 1 + 1 + 1 + 1]? = some (.cells #[.slice none 0 0,.slice (some ⟨W3.heap.size,0,none⟩) 2 2,.slice (some ⟨W3.heap.size + 1,0,none⟩) 1 1,.slice (some ⟨W3.heap.size + 1 + 1,0,none⟩) 1 1,.slice (some ⟨W3.heap.size + 1 + 1 + 1,0,none⟩) 2 2] 22 (0,0))):=by
        have h1:=HB.out
        rw [HS7.out] at h1
        exact (gq.block _ hlt7 (fun e => by injection e with e; omega)).trans h1
       clear Lq gq D8 HB HW7 hlt7 HS7
       have hcs9 : u9 = 0 ∨ u9 = 1 ∨ u9 = 2 ∨ u9 = 3 ∨ u9 = 4:=by omega
       rcases hcs9 with rfl | rfl | rfl | rfl | rfl
       ·have cc:=cell_h HB9.out 0 (v:=.slice none 0 0) rfl
        have D10:=Lib.hid (D9.out.setKinds none [] 0 Rw.nil (by show (0 : Nat) ≤ _; omega))
        have x2:=cell_h D9.out.blk 0 (v:=.slice d.ka d.kinds.length d.kc) rfl
        have f2:=froz_h D9.out.blk 0
        clear D9 HB9 HQ
        go_wp2_with fail
        go_meet
        exact ⟨_,_,D10.out.more (by omega),Or.inl (by show d.weaks.length ≤ _; omega)⟩
       ·have cc:=cell_h HB9.out 1 (v:=.slice (some ⟨W3.heap.size,0,none⟩) 2 2) rfl
        have D10:=Lib.hid (D9.out.setKinds (some ⟨W3.heap.size,0,none⟩) [2,1] 2 (rw_int [2,1] rfl HQ.out.1) (by show (2 : Nat) ≤ _; omega))
        have x2:=cell_h D9.out.blk 0 (v:=.slice d.ka d.kinds.length d.kc) rfl
        have f2:=froz_h D9.out.blk 0
        clear D9 HB9 HQ
        go_wp2_with fail
        go_meet
        exact ⟨_,_,D10.out.more (by omega),Or.inl (by show d.weaks.length ≤ _; omega)⟩
       ·have cc:=cell_h HB9.out 2 (v:=.slice (some ⟨W3.heap.size + 1,0,none⟩) 1 1) rfl
        have D10:=Lib.hid (D9.out.setKinds (some ⟨W3.heap.size + 1,0,none⟩) [0] 1 (rw_int [0] rfl HQ.out.2.1) (by show (1 : Nat) ≤ _; omega))
        have x2:=cell_h D9.out.blk 0 (v:=.slice d.ka d.kinds.length d.kc) rfl
        have f2:=froz_h D9.out.blk 0
        clear D9 HB9 HQ
        go_wp2_with fail
        go_meet
        exact ⟨_,_,D10.out.more (by omega),Or.inl (by show d.weaks.length ≤ _; omega)⟩
       ·have cc:=cell_h HB9.out 3 (v:=.slice (some ⟨W3.heap.size + 1 + 1,0,none⟩) 1 1) rfl
        have D10:=Lib.hid (D9.out.setKinds (some ⟨W3.heap.size + 1 + 1,0,none⟩) [5] 1 (rw_int [5] rfl HQ.out.2.2.1) (by show (1 : Nat) ≤ _; omega))
        have x2:=cell_h D9.out.blk 0 (v:=.slice d.ka d.kinds.length d.kc) rfl
        have f2:=froz_h D9.out.blk 0
        clear D9 HB9 HQ
        go_wp2_with fail
        go_meet
        exact ⟨_,_,D10.out.more (by omega),Or.inl (by show d.weaks.length ≤ _; omega)⟩
       ·have cc:=cell_h HB9.out 4 (v:=.slice (some ⟨W3.heap.size + 1 + 1 + 1,0,none⟩) 2 2) rfl
        have D10:=Lib.hid (D9.out.setKinds (some ⟨W3.heap.size + 1 + 1 + 1,0,none⟩) [1,1] 2 (rw_int [1,1] rfl HQ.out.2.2.2) (by show (2 : Nat) ≤ _; omega))
        have x2:=cell_h D9.out.blk 0 (v:=.slice d.ka d.kinds.length d.kc) rfl
        have f2:=froz_h D9.out.blk 0
        clear D9 HB9 HQ
        go_wp2_with fail
        go_meet
        exact ⟨_,_,D10.out.more (by omega),Or.inl (by show d.weaks.length ≤ _; omega)⟩
      ·skip
       go_wp2_with fail
       refine (D3.out.lw.odd (by omega) 2 2000 (by omega) (by omega) (by omega)).mono ?_
       rintro e W9 ⟨z,rfl,-,-,Lq,gq⟩
       have D4:=Lib.hid (D3.out.asked Lq gq)
       clear Lq gq D3
       have D5:=Lib.hid (D4.out.setMost z)
       have x1:=cell_h D4.out.blk 1 (v:=.int .i64 d.most) rfl
       have f1:=froz_h D4.out.blk 1
       clear D4
       go_wp2_with fail
       go_meet
       exact ⟨_,_,D5.out.more (by omega),Or.inl (by show d.weaks.length ≤ _; omega)⟩
      ·skip
       obtain ⟨A2,c2,H4,e1,-,i1,-,r1,-⟩:=Orow.freezeN D3.out.wk H2
       injection e1 with e1 _ e2
       rw [← e1] at r1
       have hi2:=i1 D3.out.lw.fin
       have HCL:=Lib.hid (clone_Id H4 fId d.weaks (fun d _ m => by match m with | 0 => rfl | _ + 1 => rfl) d.wa d.wc W3 hi2 r1 (by omega))
       have x2:=cell_h D3.out.blk 2 (v:=.slice d.wa d.weaks.length d.wc) rfl
       clear e1 e2 i1 r1 hi2
       go_wp2_with fail
       refine HCL.out.mono ?_
       rintro e W4 ⟨⟨v,rfl,ho⟩,hb⟩
       have G0 : Hid (RG 55 2 fId w bs (K + 1400 + 10 * 6 + 1 + 1) H2 W3 v d.weaks W4):=⟨⟨D3.out.lw.call hb,ho,fun g e => D3.out.lw.fin.none_ (ho.lt e).1,D3.out.lw.lt,hb.size⟩,vm_below hb⟩
       obtain ⟨Av,cv,hv,-⟩:=ho.slice
       subst hv
       clear ho hb x2 HCL
       have HP2:=Lib.hid (HP.out.le D3.out.le)
       go_wp2_with fail
       refine (G0.out.lw.spoiledId HP2.out (by omega)).mono ?_
       rintro e W5 ⟨kk,s,rfl,hs,Lq,gq⟩
       have G1:=Lib.hid (G0.out.asked Lq gq)
       clear Lq gq G0
       have HOr:=Lib.hid G1.out.1.row
       have HZ : Hid (∀ x ∈ d.weaks ++ [(⟨kk,s⟩ : IdD)],x.text.size ≤ 1000000):=fun x hx => by
        rcases List.mem_append.1 hx with hx | hx
        ·exact D3.out.sz.wt x hx
        ·simp at hx; rw [hx]; show s.size ≤ _; omega
       have hlw : (d.weaks ++ [(⟨kk,s⟩ : IdD)]).length ≤ 1000000:=by rw [List.length_append]; show d.weaks.length + 1 ≤ _; omega
       have HST:=Lib.hid (fun v' W' o g1 at1 => D3.out.newW (G1.out.app (v':=v') (W':=W') (ds':=d.weaks ++ [(⟨kk,s⟩ : IdD)]) o g1 at1) HZ.out hlw)
       have hB9:=G1.out.1.2.2.2.2
       clear G1 HP2
       go_wp2_with (at_builtin; refine wpList_app_at rfl _ _ 41 rfl W3.heap.size 55 i0 (.agg #[.int .i64 0,.string ⟨#[]⟩]) 2 24 Tryz.underlying41 HI0.out hz0 hz1 hz2 rfl (by decide) fId _ d.weaks rfl HOr.out ⟨kk,s⟩ #[.int .i64 kk,.string s] 55 rfl rfl (by simp [Value.oneCell']) (by omega) (by omega) hB9 ?_; intro v1 w2 o1 g1 b1 at1; obtain ⟨y2,fr2,A9,c9,rfl,hJ⟩:=HST.out v1 w2 o1 g1 at1; have CA:=Lib.hid hJ; clear o1 g1 b1 at1 HST HOr hJ)
       simp only [List.length_append,List.length_singleton] at CA
       go_meet
       exact ⟨_,_,CA.out.more (by omega),Or.inl (by show (d.weaks ++ [(⟨kk,s⟩ : IdD)]).length ≤ _; rw [List.length_append]; show d.weaks.length + 1 ≤ _; omega)⟩
      ·skip
       go_upto_region 24 with (fail)
       refine wp_region_conc 9 127 (φY bs g d) (fun n W' => JM w bs (K + 1462 + 5 * n) H H2 W g W.heap.size d W' ∧ W3.heap.size ≤ W'.heap.size) (fun a b => a.grownBy b (some bs)) (by kernel_rfl) (by kernel_rfl) (by rfl) ⟨D3.out.drew.more (by omega),Nat.le_refl _⟩ φY_mono ?_ ?_
       ·intro n o hn ho a W4 kk hkk hJ hkn
        have hcs : n = 0 ∨ n = 1 ∨ n = 2 ∨ n = 3 ∨ n = 4 ∨ n = 5 ∨ n = 6 ∨ n = 7 ∨ n = 8:=by omega
        have hbl:=hJ.1.lw.lt
        rcases hcs with rfl | rfl | rfl | rfl | rfl | rfl | rfl | rfl | rfl
        ·obtain rfl:=Option.some.inj ho
         have h1:=slotA_of (hkn 3 (by decide) : a.tmps.getD 3 undef = .pointer (some ⟨g,0,none⟩))
         clear hkn ho
         simp only [OpV,execOp]
         simp [go_sem,h1]
         exact ⟨rfl,⟨hJ.1.more (by omega),hJ.2⟩,World.grownBy.refl _ _⟩
        ·obtain rfl:=Option.some.inj ho
         have h1:=slotA_of (hkn 98 (by decide) : a.tmps.getD 98 undef = .pointer (some ⟨g,3,none⟩))
         have c3:=cell_h hJ.1.blk 3 (v:=.slice d.sa d.surs.length d.sc) rfl
         clear hkn ho
         simp only [OpV,execOp]
         simp [go_sem,h1,c3]
         exact ⟨rfl,⟨hJ.1.more (by omega),hJ.2⟩,World.grownBy.refl _ _⟩
        ·obtain rfl:=Option.some.inj ho
         exact ⟨hkn 0 (by decide),⟨hJ.1.more (by omega),hJ.2⟩,World.grownBy.refl _ _⟩
        ·obtain rfl:=Option.some.inj ho
         clear hkn ho
         simp only [OpV,execOp]
         simp [go_sem]
         exact ⟨⟨W4.heap.size,rfl,AtM.new _ hbl⟩,⟨(hJ.1.alloc _).more (by omega),by have:=hJ.2; simp; omega⟩,grown_alloc _ _⟩
        ·obtain rfl:=Option.some.inj ho
         have h1:=slotA_of (hkn 100 (by decide) : a.tmps.getD 100 undef = .pointer (some ⟨bs,0,none⟩))
         obtain ⟨q,h2,h3⟩ : ∃ q,a.tmps.getD 101 undef = .slice (some ⟨q,0,none⟩) 3 3 ∧ AtM bs W4 q (.cells #[.string ⟨#[]⟩,.string ⟨#[97,103,101]⟩,.string ⟨#[122,111,111]⟩] 9 (0,0)):=hkn 101 (by decide)
         replace h2:=slotA_of h2
         clear hkn ho
         simp only [OpV,execOp]
         simp [go_sem,h1,h2]
         exact (hJ.1.lw.one (some ⟨q,0,none⟩) 3 [⟨#[]⟩,⟨#[97,103,101]⟩,⟨#[122,111,111]⟩] (StrsW.of_row h3.2 rfl) (fun b off e => by injection e with e; injection e with e1 e2; rw [← e1]; exact h3.1) (by simp) (by simp) (by omega)).mono fun e w'' ⟨z,he,hz,L',g',_⟩ => ⟨_,he,⟨z,rfl,sizeK hz (by decide +kernel)⟩,⟨(hJ.1.asked L' g').more (by omega),by have:=hJ.2; have:=g'.size; omega⟩,g'⟩
        ·obtain rfl:=Option.some.inj ho
         exact ⟨hkn 0 (by decide),⟨hJ.1.more (by omega),hJ.2⟩,World.grownBy.refl _ _⟩
        ·obtain rfl:=Option.some.inj ho
         have h1:=slotA_of (hkn 103 (by decide) : a.tmps.getD 103 undef = .pointer (some ⟨bs,0,none⟩))
         clear hkn ho
         simp only [OpV,execOp]
         simp [go_sem,h1]
         exact (hJ.1.lw.odd (by omega) 1 7 (by omega) (by omega) (by omega)).mono fun e w'' ⟨z,he,_,_,L',g'⟩ => ⟨_,he,⟨z,rfl⟩,⟨(hJ.1.asked L' g').more (by omega),by have:=hJ.2; have:=g'.size; omega⟩,g'⟩
        ·obtain rfl:=Option.some.inj ho
         obtain ⟨s,h1,hs⟩ : ∃ s : ByteArray,a.tmps.getD 102 undef = .string s ∧ s.size ≤ 1000:=hkn 102 (by decide)
         obtain ⟨z,h2⟩ : ∃ z : Int,a.tmps.getD 104 undef = .int .i64 z:=hkn 104 (by decide)
         replace h1:=slotA_of h1
         replace h2:=slotA_of h2
         clear hkn ho
         simp only [OpV,execOp]
         simp [go_sem,h1,h2]
         exact ⟨⟨s,z,rfl,hs⟩,⟨hJ.1.more (by omega),hJ.2⟩,World.grownBy.refl _ _⟩
        ·obtain rfl:=Option.some.inj ho
         obtain ⟨s,z,h1,hs⟩ : ∃ (s : ByteArray) (z : Int),a.tmps.getD 105 undef = .agg #[.string s,.int .i64 z,.slice none 0 0] ∧ s.size ≤ 1000:=hkn 105 (by decide)
         replace h1:=slotA_of h1
         clear hkn ho
         simp only [OpV,execOp]
         simp [go_sem,h1]
         exact ⟨⟨W4.heap.size,s,z,rfl,AtM.new _ hbl,hs⟩,⟨(hJ.1.alloc _).more (by omega),by have:=hJ.2; simp; omega⟩,grown_alloc _ _⟩
       ·intro x W5 hJ5 hφ
        have e1 : x 1 = .slice d.sa d.surs.length d.sc:=hφ 1 (by omega)
        obtain ⟨qb,s,z,e9,hat,hs⟩ : ∃ (qb : Nat) (s : ByteArray) (z : Int),x 8 = .slice (some ⟨qb,0,none⟩) 1 1 ∧ AtM bs W5 qb (.cells #[.string s,.int .i64 z,.slice none 0 0] 210 (0,0)) ∧ s.size ≤ 1000:=hφ 8 (by omega)
        have HOr:=Lib.hid hJ5.1.sv
        have q3:=cell_h hJ5.1.blk 3 (v:=.slice d.sa d.surs.length d.sc) rfl
        have HST:=Lib.hid (fun v' W' o g1 (at1 : v'.ownBlock = (Value.slice d.sa d.surs.length d.sc).ownBlock ∨ v'.ownBlock = some W5.heap.size) => hJ5.1.appS (v':=v') (W':=W') (x:=⟨s,z,none,0,[]⟩) o g1 (at1.imp (fun a => a) (fun a => ⟨_,a,Nat.le_refl _⟩)) Rw.nil ⟨by show s.size ≤ _; omega,by show (0 : Nat) ≤ _; omega,Nat.le_refl _,(fun x hx => by cases hx)⟩ (by omega))
        have hB9:=hJ5.1.gr.size
        simp only [List.drop_succ_cons,List.drop_zero,List.take_succ_cons,List.take_zero,putAll,Nat.reduceAdd,e1,e9]
        clear e1 e9 hφ
        generalize x 0 = y09
        generalize x 2 = y29
        generalize x 3 = y39
        generalize x 4 = y49
        generalize x 5 = y59
        generalize x 6 = y69
        generalize x 7 = y79
        go_wp2_with (at_builtin; refine wpList_app_any rfl _ _ 42 rfl W.heap.size 210 u0 (.agg #[.string ⟨#[]⟩,.int .i64 0,.slice none 0 0]) 3 48 Tryz.underlying42 HU0.out hu0 hu1 hu2 rfl (by decide) fSur (.slice d.sa d.surs.length d.sc) d.surs (by go_simp) HOr.out ⟨s,z,none,0,[]⟩ qb #[.string s,.int .i64 z,.slice none 0 0] 210 (by go_simp) hat.2 rfl (by simp [Value.oneCell']) (by omega) (by omega) hB9 ?_; intro v1 w2 o1 g1 b1 at1; obtain ⟨y3,fr3,A9,c9,rfl,hJ⟩:=HST.out v1 w2 o1 g1 at1; have CA:=Lib.hid hJ; clear o1 g1 b1 at1 HST HOr hJ)
        go_meet
        exact ⟨_,_,CA.out.more (by omega),Or.inl (by show d.weaks.length ≤ _; omega)⟩
      ·skip
       go_upto_region 26 with (fail)
       refine wp_region_conc 13 127 (φZ bs g W3.heap.size d) (fun n W' => JM w bs (K + 1462 + 5 * n) H H2 W g W.heap.size d W' ∧ W3.heap.size ≤ W'.heap.size) (fun a b => a.grownBy b (some bs)) (by kernel_rfl) (by kernel_rfl) (by rfl) ⟨D3.out.drew.more (by omega),Nat.le_refl _⟩ φZ_mono ?_ ?_
       ·intro n o hn ho a W4 kk hkk hJ hkn
        have hcs : n = 0 ∨ n = 1 ∨ n = 2 ∨ n = 3 ∨ n = 4 ∨ n = 5 ∨ n = 6 ∨ n = 7 ∨ n = 8 ∨ n = 9 ∨ n = 10 ∨ n = 11 ∨ n = 12:=by omega
        have hbl:=hJ.1.lw.lt
        rcases hcs with rfl | rfl | rfl | rfl | rfl | rfl | rfl | rfl | rfl | rfl | rfl | rfl | rfl
        ·obtain rfl:=Option.some.inj ho
         have h1:=slotA_of (hkn 3 (by decide) : a.tmps.getD 3 undef = .pointer (some ⟨g,0,none⟩))
         clear hkn ho
         simp only [OpV,execOp]
         simp [go_sem,h1]
         exact ⟨rfl,⟨hJ.1.more (by omega),hJ.2⟩,World.grownBy.refl _ _⟩
        ·obtain rfl:=Option.some.inj ho
         have h1:=slotA_of (hkn 111 (by decide) : a.tmps.getD 111 undef = .pointer (some ⟨g,3,none⟩))
         have c3:=cell_h hJ.1.blk 3 (v:=.slice d.sa d.surs.length d.sc) rfl
         clear hkn ho
         simp only [OpV,execOp]
         simp [go_sem,h1,c3]
         exact ⟨rfl,⟨hJ.1.more (by omega),hJ.2⟩,World.grownBy.refl _ _⟩
        ·obtain rfl:=Option.some.inj ho
         exact ⟨hkn 0 (by decide),⟨hJ.1.more (by omega),hJ.2⟩,World.grownBy.refl _ _⟩
        ·obtain rfl:=Option.some.inj ho
         have h1:=slotA_of (hkn 113 (by decide) : a.tmps.getD 113 undef = .pointer (some ⟨bs,0,none⟩))
         clear hkn ho
         simp only [OpV,execOp]
         simp [go_sem,h1]
         exact (hJ.1.lw.range 1 7 (by omega) (by omega) (by omega) (by omega)).mono fun e w'' ⟨z,he,_,_,L',g',_⟩ => ⟨_,he,⟨z,rfl⟩,⟨(hJ.1.asked L' g').more (by omega),by have:=hJ.2; have:=g'.size; omega⟩,g'⟩
        ·obtain rfl:=Option.some.inj ho
         exact ⟨hkn 0 (by decide),⟨hJ.1.more (by omega),hJ.2⟩,World.grownBy.refl _ _⟩
        ·obtain rfl:=Option.some.inj ho
         clear hkn ho
         simp only [OpV,execOp]
         simp [go_sem]
         exact ⟨⟨W4.heap.size,rfl,AtM.new _ hbl⟩,⟨(hJ.1.alloc _).more (by omega),by have:=hJ.2; simp; omega⟩,grown_alloc _ _⟩
        ·obtain rfl:=Option.some.inj ho
         have h1:=slotA_of (hkn 115 (by decide) : a.tmps.getD 115 undef = .pointer (some ⟨bs,0,none⟩))
         obtain ⟨q,h2,h3⟩ : ∃ q,a.tmps.getD 116 undef = .slice (some ⟨q,0,none⟩) 2 2 ∧ AtM bs W4 q (.cells #[.string ⟨#[97]⟩,.string ⟨#[66]⟩] 9 (0,0)):=hkn 116 (by decide)
         replace h2:=slotA_of h2
         clear hkn ho
         simp only [OpV,execOp]
         simp [go_sem,h1,h2]
         exact (hJ.1.lw.one (some ⟨q,0,none⟩) 2 [⟨#[97]⟩,⟨#[66]⟩] (StrsW.of_row h3.2 rfl) (fun b off e => by injection e with e; injection e with e1 e2; rw [← e1]; exact h3.1) (by simp) (by simp) (by omega)).mono fun e w'' ⟨z,he,hz,L',g',_⟩ => ⟨_,he,⟨z,rfl,sizeK hz (by decide +kernel)⟩,⟨(hJ.1.asked L' g').more (by omega),by have:=hJ.2; have:=g'.size; omega⟩,g'⟩
        ·obtain rfl:=Option.some.inj ho
         exact ⟨hkn 0 (by decide),⟨hJ.1.more (by omega),hJ.2⟩,World.grownBy.refl _ _⟩
        ·obtain rfl:=Option.some.inj ho
         clear hkn ho
         simp only [OpV,execOp]
         simp [go_sem]
         exact ⟨⟨W4.heap.size,rfl,AtM.new _ hbl⟩,⟨(hJ.1.alloc _).more (by omega),by have:=hJ.2; simp; omega⟩,grown_alloc _ _⟩
        ·obtain rfl:=Option.some.inj ho
         have h1:=slotA_of (hkn 118 (by decide) : a.tmps.getD 118 undef = .pointer (some ⟨bs,0,none⟩))
         obtain ⟨q,h2,h3⟩ : ∃ q,a.tmps.getD 119 undef = .slice (some ⟨q,0,none⟩) 2 2 ∧ AtM bs W4 q (.cells #[.string ⟨#[97]⟩,.string ⟨#[98]⟩] 9 (0,0)):=hkn 119 (by decide)
         replace h2:=slotA_of h2
         clear hkn ho
         simp only [OpV,execOp]
         simp [go_sem,h1,h2]
         exact (hJ.1.lw.one (some ⟨q,0,none⟩) 2 [⟨#[97]⟩,⟨#[98]⟩] (StrsW.of_row h3.2 rfl) (fun b off e => by injection e with e; injection e with e1 e2; rw [← e1]; exact h3.1) (by simp) (by simp) (by omega)).mono fun e w'' ⟨z,he,hz,L',g',_⟩ => ⟨_,he,⟨z,rfl,sizeK hz (by decide +kernel)⟩,⟨(hJ.1.asked L' g').more (by omega),by have:=hJ.2; have:=g'.size; omega⟩,g'⟩
        ·obtain rfl:=Option.some.inj ho
         obtain ⟨s1,h1,hs1⟩ : ∃ s : ByteArray,a.tmps.getD 117 undef = .string s ∧ s.size ≤ 1000:=hkn 117 (by decide)
         obtain ⟨s2,h2,hs2⟩ : ∃ s : ByteArray,a.tmps.getD 120 undef = .string s ∧ s.size ≤ 1000:=hkn 120 (by decide)
         replace h1:=slotA_of h1
         replace h2:=slotA_of h2
         clear hkn ho
         simp only [OpV,execOp]
         simp [go_sem,h1,h2]
         exact ⟨⟨W4.heap.size,s1,s2,rfl,hJ.2,AtM.new _ hbl,hs1,hs2⟩,⟨(hJ.1.alloc _).more (by omega),by have:=hJ.2; simp; omega⟩,grown_alloc _ _⟩
        ·obtain rfl:=Option.some.inj ho
         obtain ⟨z,h1⟩ : ∃ z : Int,a.tmps.getD 114 undef = .int .i64 z:=hkn 114 (by decide)
         obtain ⟨q,s1,s2,h2,hq,hat,hs⟩ : ∃ (q : Nat) (s1 s2 : ByteArray),a.tmps.getD 121 undef = .slice (some ⟨q,0,none⟩) 2 2 ∧ W3.heap.size ≤ q ∧ AtM bs W4 q (.cells #[.string s1,.string s2] 9 (0,0)) ∧ s1.size ≤ 1000 ∧ s2.size ≤ 1000:=hkn 121 (by decide)
         replace h1:=slotA_of h1
         replace h2:=slotA_of h2
         clear hkn ho
         simp only [OpV,execOp]
         simp [go_sem,h1,h2]
         exact ⟨⟨z,q,s1,s2,rfl,hq,hat,hs⟩,⟨hJ.1.more (by omega),hJ.2⟩,World.grownBy.refl _ _⟩
        ·obtain rfl:=Option.some.inj ho
         obtain ⟨z,q,s1,s2,h1,hq,hat,hs⟩ : ∃ (z : Int) (q : Nat) (s1 s2 : ByteArray),a.tmps.getD 122 undef = .agg #[.string ⟨#[122,111,111]⟩,.int .i64 z,.slice (some ⟨q,0,none⟩) 2 2] ∧ W3.heap.size ≤ q ∧ AtM bs W4 q (.cells #[.string s1,.string s2] 9 (0,0)) ∧ s1.size ≤ 1000 ∧ s2.size ≤ 1000:=hkn 122 (by decide)
         replace h1:=slotA_of h1
         clear hkn ho
         simp only [OpV,execOp]
         simp [go_sem,h1]
         exact ⟨⟨W4.heap.size,z,q,s1,s2,rfl,AtM.new _ hbl,hq,hat.keep (grown_alloc _ _),hs⟩,⟨(hJ.1.alloc _).more (by omega),by have:=hJ.2; simp; omega⟩,grown_alloc _ _⟩
       ·intro x W5 hJ5 hφ
        have e1 : x 1 = .slice d.sa d.surs.length d.sc:=hφ 1 (by omega)
        obtain ⟨qb,z,q,s1,s2,e9,hat,hq,hat2,hs1,hs2⟩ : ∃ (qb : Nat) (z : Int) (q : Nat) (s1 s2 : ByteArray),x 12 = .slice (some ⟨qb,0,none⟩) 1 1 ∧ AtM bs W5 qb (.cells #[.string ⟨#[122,111,111]⟩,.int .i64 z,.slice (some ⟨q,0,none⟩) 2 2] 210 (0,0)) ∧ W3.heap.size ≤ q ∧ AtM bs W5 q (.cells #[.string s1,.string s2] 9 (0,0)) ∧ s1.size ≤ 1000 ∧ s2.size ≤ 1000:=hφ 12 (by omega)
        obtain ⟨hJ6,hl6⟩:=hJ5.1.keepS hat2 (Nat.le_trans D3.out.gr.size hq) (D3.out.lw.fin.none_ hq)
        have hr6:=rw_str (H:=H2.add q (.cells #[.string s1,.string s2] 9 (0,0))) [s1,s2] rfl (Frz.add_at _ _ _)
        clear hJ5
        have HOr:=Lib.hid hJ6.sv
        have q3:=cell_h hJ6.blk 3 (v:=.slice d.sa d.surs.length d.sc) rfl
        have HST:=Lib.hid (fun v' W' o g1 (at1 : v'.ownBlock = (Value.slice d.sa d.surs.length d.sc).ownBlock ∨ v'.ownBlock = some W5.heap.size) => hJ6.appS (v':=v') (W':=W') (x:=⟨⟨#[122,111,111]⟩,z,some ⟨q,0,none⟩,2,[s1,s2]⟩) o g1 (at1.imp (fun a => a) (fun a => ⟨_,a,Nat.le_refl _⟩)) hr6 ⟨by show (3 : Nat) ≤ _; omega,by show (2 : Nat) ≤ _; omega,Nat.le_refl _,(fun x hx => by have : x = s1 ∨ x = s2:=(by simpa using hx); rcases this with rfl | rfl <;> omega)⟩ (by omega))
        have hB9:=hJ6.gr.size
        simp only [List.drop_succ_cons,List.drop_zero,List.take_succ_cons,List.take_zero,putAll,Nat.reduceAdd,e1,e9]
        clear e1 e9 hφ
        generalize x 0 = y09
        generalize x 2 = y29
        generalize x 3 = y39
        generalize x 4 = y49
        generalize x 5 = y59
        generalize x 6 = y69
        generalize x 7 = y79
        generalize x 8 = y89
        generalize x 9 = y99
        generalize x 10 = y109
        generalize x 11 = y119
        go_wp2_with (at_builtin; refine wpList_app_any rfl _ _ 42 rfl W.heap.size 210 u0 (.agg #[.string ⟨#[]⟩,.int .i64 0,.slice none 0 0]) 3 48 Tryz.underlying42 HU0.out hu0 hu1 hu2 rfl (by decide) fSur (.slice d.sa d.surs.length d.sc) d.surs (by go_simp) HOr.out ⟨⟨#[122,111,111]⟩,z,some ⟨q,0,none⟩,2,[s1,s2]⟩ qb #[.string ⟨#[122,111,111]⟩,.int .i64 z,.slice (some ⟨q,0,none⟩) 2 2] 210 (by go_simp) hat.2 rfl (by simp [Value.oneCell']) (by omega) (by omega) hB9 ?_; intro v1 w2 o1 g1 b1 at1; obtain ⟨y3,fr3,A9,c9,rfl,hJ⟩:=HST.out v1 w2 o1 g1 at1; have CA:=Lib.hid hJ; clear o1 g1 b1 at1 HST HOr hJ)
        go_meet
        exact ⟨_,_,CA.out.more (by omega),Or.inl (by show d.weaks.length ≤ _; omega)⟩
      ·skip
       have q0 : (sw == 0) = false:=by simpa using m0
       have q1 : (sw == 1) = false:=by simpa using m1
       have q2 : (sw == 2) = false:=by simpa using m2
       have q3 : (sw == 3) = false:=by simpa using m3
       have q4 : (sw == 4) = false:=by simpa using m4
       clear m0 m1 m2 m3 m4
       go_wp2_with fail
       clear q0 q1 q2 q3 q4
       go_loopw [59] (fun t wr => ∃ (j : Nat) (d : RulD),j ≤ 201 ∧ t = .int .i64 j ∧ Hid (JM w bs (K + 1600) H H2 W g W.heap.size d wr) ∧ d.weaks.length ≤ 2 + j ∧ j ≤ d.weaks.length) (fun t _ => 201 - (intOf t).toNat)
       case atStart => exact ⟨0,d,by omega,rfl,D3.out.more (by omega),by omega,by omega⟩
       case round =>
        clear D3 hwl hdl
        obtain ⟨j,d,hj,rfl,D,hwl,hwg⟩:=hrel
        by_cases hlj : j < 201
        ·have dj : decide ((j : Int) < 201) = true:=by simp; omega
         have p0 : wr.cell? ⟨1,0,none⟩ = some (.int .i64 poolL[0].1):=D.out.lw.fin.cell ((HP.out.le D.out.le) 0 (by decide)).1
         have p1 : wr.cell? ⟨1,1,none⟩ = some (.string ⟨poolL[0].2.toArray⟩):=D.out.lw.fin.cell ((HP.out.le D.out.le) 0 (by decide)).2
         have hps : (⟨poolL[0].2.toArray⟩ : ByteArray).size ≤ 1000000:=by have:=(pool_ok 0 (by decide)).2; omega
         generalize poolL[0].1 = pk at *
         generalize (⟨poolL[0].2.toArray⟩ : ByteArray) = ps at *
         have x2:=cell_h D.out.blk 2 (v:=.slice d.wa d.weaks.length d.wc) rfl
         have HOr:=Lib.hid D.out.wk
         have HST:=Lib.hid (fun v' W' o g1 (at1 : v'.ownBlock = (Value.slice d.wa d.weaks.length d.wc).ownBlock ∨ ∃ q,v'.ownBlock = some q ∧ wr.heap.size < q) => D.out.appW (v':=v') (W':=W') (x:=⟨pk,ps⟩) o g1 (at1.imp (fun a => a) (fun ⟨q,a,b⟩ => ⟨q,a,by omega⟩)) hps (by omega))
         have hB9:=D.out.gr.size
         clear D
         go_wp2_with (at_builtin; refine wpList_app_at rfl _ _ 41 rfl W.heap.size 55 i0 (.agg #[.int .i64 0,.string ⟨#[]⟩]) 2 24 Tryz.underlying41 HI0.out hz0 hz1 hz2 rfl (by decide) fId _ d.weaks rfl HOr.out ⟨pk,ps⟩ #[.int .i64 pk,.string ps] 55 rfl rfl (by simp [Value.oneCell']) (by omega) (by omega) hB9 ?_; intro v1 w2 o1 g1 b1 at1; obtain ⟨y2,fr2,A9,c9,rfl,hJ⟩:=HST.out v1 w2 o1 g1 at1; have CA:=Lib.hid hJ; clear o1 g1 b1 at1 HST HOr hJ)
         go_roundw
         case rel => exact ⟨j + 1,_,by omega,by go_num,CA.out.more (by omega),by show (d.weaks ++ [(⟨pk,ps⟩ : IdD)]).length ≤ _; rw [List.length_append]; show d.weaks.length + 1 ≤ _; omega,by show j + 1 ≤ (d.weaks ++ [(⟨pk,ps⟩ : IdD)]).length; rw [List.length_append]; show j + 1 ≤ d.weaks.length + 1; omega⟩
         case measure => simp [intOf]; omega
        ·have hje : j = 201:=by omega
         subst hje
         go_wp2_with fail
         go_meet
         exact ⟨_,_,D.out.more (by omega),Or.inr (by omega)⟩
    case rest =>
     clear D2
     obtain ⟨H3,d,D9,hwk⟩:=hcut
     have k0:=cell_h D9.out.blk 0 (v:=.slice d.ka d.kinds.length d.kc) rfl
     have k1:=cell_h D9.out.blk 1 (v:=.int .i64 d.most) rfl
     have k2:=cell_h D9.out.blk 2 (v:=.slice d.wa d.weaks.length d.wc) rfl
     have k3:=cell_h D9.out.blk 3 (v:=.slice d.sa d.surs.length d.sc) rfl
     have hkr:=D9.out.res
     have rr0:=cell_h hkr 0 (v:=.slice none 0 0) rfl
     have rf0:=froz_h hkr 0
     have rr1:=cell_h hkr 1 (v:=.int .i64 0) rfl
     have rf1:=froz_h hkr 1
     have rr2:=cell_h hkr 2 (v:=.slice none 0 0) rfl
     have rf2:=froz_h hkr 2
     have rr3:=cell_h hkr 3 (v:=.slice none 0 0) rfl
     have rf3:=froz_h hkr 3
     go_wp2_with fail
     (try simp only [Exit.inBlock,Exit.then])
     obtain ⟨hg9,hh9⟩:=js_set4 hkr (.slice d.ka d.kinds.length d.kc) (.int .i64 d.most) (.slice d.wa d.weaks.length d.wc) (.slice d.sa d.surs.length d.sc)
     refine bodyPost_ret (results_cell_row rfl _ _ W.heap.size 44 _ (0,0) _ rfl hh9 Tryz.underlying44 rfl (by kernel_rfl)) rfl ?_
     obtain ⟨H9,le9,old9,L9,ri9,hr9⟩:=D9.out.done
     refine ⟨d,H9,rfl,le9,old9,(L9.grown hg9 (fun q hq => by injection hq with hq; subst hq; exact ⟨D9.out.br,hr9⟩)).more (by omega),⟨hg9.os.trans D9.out.gr.os,hg9.tape.trans D9.out.gr.tape,hg9.output.trans D9.out.gr.output,Nat.le_trans D9.out.gr.size hg9.size,fun b hb hne => ?_⟩,ri9,D9.out.sz,hwk⟩
     have:=D9.out.lr
     exact (hg9.block b (Nat.lt_of_lt_of_le hb D9.out.gr.size) (fun e => by injection e with e; omega)).trans (D9.out.gr.block b hb hne)
end Go.Proofs.YtbidhpgjmcedaaaGreatDoor
