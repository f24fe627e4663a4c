/- Texts of this claim, put together: Pool, Odd, Chg, Spoil, Sk. -/
import Derived.Test.YtfmnlpmgakgleaaGreatDoorGAH
import Derived.Test.YtfmnlpmgakgleaaGreatDoorGAF
import Derived.Test.YtfmnlpmgakgleaaGreatDoorGAG
import Derived.Deep.Cut
import Derived.StillTailTactics
import Derived.BigQuiet
import Derived.Test.YtfmnlpmgakgleaaGreatDoorShelf
namespace Go.Proofs.YtfmnlpmgakgleaaGreatDoor
set_option linter.unusedVariables false
open Go.RowKit
def PoolIn (H:Frz):Prop:=∀ i (h:i < poolL.length),H.cell? ⟨1,i * 2,none⟩ = some (.int .i64 poolL[i].1) ∧ H.cell? ⟨1,i * 2 + 1,none⟩ = some (.string ⟨poolL[i].2.toArray⟩)
theorem PoolIn.le {H H':Frz} (h:PoolIn H) (hl:H.Le H'):PoolIn H':=fun i hi => ⟨hl.cell (h i hi).1,hl.cell (h i hi).2⟩
theorem grown_row {a b c:World} {row:Option Nat} (h:a.grownBy b none) (h2:b.grownBy c row):a.grownBy c row :=
 ⟨h2.os.trans h.os,h2.tape.trans h.tape,h2.output.trans h.output,Nat.le_trans h.size h2.size,fun k hk hne => (h2.block k (Nat.lt_of_lt_of_le hk h.size) hne).trans (h.block k hk (fun c => by cases c))⟩
open Go.RowKit
def OddPost (w:World) (bs K:Nat) (H:Frz) (W:World) (e:Ending) (W':World):Prop:=∃ z:Int,e = .returned (.int .i64 z) ∧ -1099511627777 ≤ z ∧ z ≤ 1099511627777 ∧ Lw w bs (K + 2) H W' ∧ W.grownBy W' (some bs)
set_option maxHeartbeats 2000000 in
set_option maxRecDepth 100000 in
theorem Lw.odd {w W:World} {bs K:Nat} {H:Frz} (h:Lw w bs K H W) (hK:K ≤ 100000000) (lo hi:Int) (h0:-1000000000 ≤ lo) (h1:lo ≤ hi) (h2:hi ≤ 1000000000) :
  Calls Tryz.prog 150 #[.pointer (some ⟨bs,0,none⟩),.int .i64 lo,.int .i64 hi] W (OddPost w bs K H W):=by
 have hbs:=h.lt
 have L1:=Lib.hid h
 clear h
 go_enter Tryz.func150,Tryz.ntmps150
 go_wp2_with fail
 refine (L1.out.flip 12 (by omega) (by omega)).mono ?_
 rintro e W2 ⟨t,rfl,Lq,gq,-⟩
 have L2:=Lib.hid Lq
 have G2:=Lib.hid gq
 clear Lq gq
 cases t with
 | true =>
  have hin:Hid (Ints (W2.alloc (.cells #[.int .i64 (lo - 1),.int .i64 (hi + 1),.int .i64 lo,.int .i64 hi,.int .i64 (-1099511627776),.int .i64 1099511627776] 3)) (some ⟨W2.heap.size,0,none⟩) [lo - 1,hi + 1,lo,hi,-1099511627776,1099511627776]):=Ints.of_row (heap_at rfl) rfl
  have hne:=L2.out.lt
  go_wp2_with fail
  refine ((L2.out.alloc _).pick _ _ [lo - 1,hi + 1,lo,hi,-1099511627776,1099511627776] hin.out (fun b off e => by injection e with e;injection e with e1 e2;omega) (by simp) (by simp) (by omega)).mono ?_
  rintro e W3 ⟨z,rfl,hz,Lq,gq,-⟩
  have hz2:-1099511627777 ≤ z ∧ z ≤ 1099511627777:=by simp at hz;omega
  have HF:Hid (OddPost w bs K H W (.returned (.int .i64 z)) W3):=⟨z,rfl,hz2.1,hz2.2,Lq,by
   have g3:=grown_row (grown_alloc _ none) gq
   exact G2.out.trans g3⟩
  clear Lq gq hz hin L2 G2
  go_wp2_with fail
  go_ret
  exact HF.out
 | false =>
  go_wp2_with fail
  refine (L2.out.range lo hi (by omega) (by omega) (by omega) (by omega)).mono ?_
  rintro e W3 ⟨z,rfl,z0,z1,Lq,gq,-⟩
  have HF:Hid (OddPost w bs K H W (.returned (.int .i64 z)) W3):=⟨z,rfl,by omega,by omega,Lq,G2.out.trans gq⟩
  clear Lq gq L2 G2
  go_wp2_with fail
  go_ret
  exact HF.out
open Go.RowKit
theorem cv_1 (w:World) (n:Int):(convert 5 21 (.int .u8 n)).run Tryz.prog w = .ok (.int .i32 (IntKind.wrap .i32 n)) w:=by kernel_rfl
theorem cv_2 (w:World) (n:Int):(convert 21 9 (.int .i32 n)).run Tryz.prog w = .ok (.string (Utf8.encode n)) w:=by kernel_rfl
theorem cv_size:∀ n:Fin 256,(Utf8.encode (IntKind.wrap .i32 ((n.val:Nat):Int))).size ≤ 4:=by decide +kernel
def ChPost (w:World) (bs K:Nat) (H:Frz) (W:World) (n:Nat) (e:Ending) (W':World):Prop:=∃ s:ByteArray,e = .returned (.string s) ∧ s.size ≤ n ∧ Lw w bs (K + 3) H W' ∧ W.grownBy W' (some bs)
set_option maxHeartbeats 2000000 in
set_option maxRecDepth 100000 in
theorem Lw.changed {w W:World} {bs K:Nat} {H:Frz} (h:Lw w bs K H W) (hK:K ≤ 100000000) (a b:ByteArray) (ha:a.size ≤ 100000) (hb:b.size ≤ 100000) :
  Calls Tryz.prog 210 #[.pointer (some ⟨bs,0,none⟩),.string a,.string b] W (ChPost w bs K H W (a.size + b.size + 10)):=by
 have hbs:=h.lt
 have L1:=Lib.hid h
 clear h
 by_cases h0:a.size = 0 ∨ b.size = 0
 ·have HF:Hid (ChPost w bs K H W (a.size + b.size + 10) (.returned (.string b)) W):=⟨b,rfl,by omega,L1.out.more (by omega),World.grownBy.refl _ _⟩
  clear L1
  rcases h0 with h0 | h0
  ·have e0:a = ⟨#[]⟩:=by
    cases a with | mk x => simp [ByteArray.size] at h0;subst h0;rfl
   subst e0
   go_enter Tryz.func210,Tryz.ntmps210
   go_wp2_with fail
   go_ret
   exact HF.out
  ·have e0:b = ⟨#[]⟩:=by
    cases b with | mk x => simp [ByteArray.size] at h0;subst h0;rfl
   subst e0
   go_enter Tryz.func210,Tryz.ntmps210
   go_wp2_with fail
   all_goals go_ret
   all_goals exact HF.out
 ·have ea2:¬ a.toList = []:=fun c => h0 (Or.inl (by rw [ByteArray.toList_eq] at c;cases a with | mk x => simp at c;subst c;rfl))
  have eb2:¬ b.toList = []:=fun c => h0 (Or.inr (by rw [ByteArray.toList_eq] at c;cases b with | mk x => simp at c;subst c;rfl))
  have ea:a.toList.isEmpty = false:=by simpa using ea2
  have eb:b.toList.isEmpty = false:=by simpa using eb2
  go_enter Tryz.func210,Tryz.ntmps210
  go_wp2_with fail
  refine (L1.out.next' a.size (by omega) (by omega) (by omega)).mono ?_
  rintro e W2 ⟨q,rfl,q0,q1,Lq,gq,-⟩
  have L2:=Lib.hid Lq
  have G2:=Lib.hid gq
  clear Lq gq L1
  go_wp2_with fail
  refine (L2.out.next' b.size (by omega) (by omega) (by omega)).mono ?_
  rintro e W3 ⟨r,rfl,r0,r1,Lq,gq,-⟩
  have L3:=Lib.hid Lq
  have G3:=Lib.hid (G2.out.trans gq)
  clear Lq gq L2 G2
  obtain ⟨qn,rfl⟩:∃ qn:Nat,(qn:Int) = q:=⟨q.toNat,by omega⟩
  obtain ⟨rn,rfl⟩:∃ rn:Nat,(rn:Int) = r:=⟨r.toNat,by omega⟩
  have hbv:Hid ((b[rn]'(by omega)).toNat < 256):=UInt8.toNat_lt _
  go_wp2_with fail
  refine (L3.out.next' 3 (by omega) (by omega) (by omega)).mono ?_
  rintro e W4 ⟨z,rfl,z0,z1,Lq,gq,-⟩
  have L4:=Lib.hid Lq
  have G4:=Lib.hid (G3.out.trans gq)
  clear Lq gq L3 G3
  generalize hbb:(b[rn]'(by omega)).toNat = bv at *
  clear hbb
  have cv1:∀ w',_:=fun w' => cv_1 w' (bv:Int)
  have cv2:∀ w',_:=fun w' => cv_2 w' (IntKind.wrap .i32 (bv:Int))
  have hcs:=cv_size ⟨bv,hbv.out⟩
  generalize IntKind.wrap .i32 (bv:Int) = rv at *
  generalize Utf8.encode rv = us at *
  have f1:(qn:Int) ≤ (a.size:Int):=by omega
  have f2:qn ≤ a.size:=by omega
  have f3:(qn:Int) + 1 ≤ (a.size:Int):=by omega
  have f4:(0:Int) ≤ (qn:Int) + 1:=by omega
  have f5:qn + 1 ≤ a.size:=by omega
  have hz:z = 0 ∨ z = 1 ∨ z = 2:=by omega
  have HL:Hid (∀ n,Lw w bs (K + 3) H (W4.drewN n) ∧ W.grownBy (W4.drewN n) (some bs)):=fun n => ⟨L4.out.drewN n,⟨G4.out.os,G4.out.tape,G4.out.output,G4.out.size,G4.out.block⟩⟩
  rcases hz with rfl | rfl | rfl
  ·go_upto_region 7 with (fail)
   go_quiet (fail)
   go_wp2_with fail
   go_ret
   exact ⟨_,rfl,by simp only [ByteArray.size_append,ByteArray.size_extract];omega,(HL.out _).1,(HL.out _).2⟩
  ·go_upto_region 9 with (fail)
   go_quiet (fail)
   go_wp2_with fail
   go_ret
   exact ⟨_,rfl,by simp only [ByteArray.size_append,ByteArray.size_extract];omega,(HL.out _).1,(HL.out _).2⟩
  ·go_upto_region 10 with (fail)
   go_quiet (fail)
   go_wp2_with fail
   go_ret
   exact ⟨_,rfl,by simp only [ByteArray.size_append,ByteArray.size_extract];omega,(HL.out _).1,(HL.out _).2⟩
open Go.RowKit
def SpPost (w:World) (bs K:Nat) (H:Frz) (W:World) (e:Ending) (W':World):Prop:=∃ (k:Int) (s:ByteArray),e = .returned (.agg #[.int .i64 k,.string s]) ∧ s.size ≤ 3000 ∧ Lw w bs (K + 8) H W' ∧ W.grownBy W' (some bs)
theorem grown_new {a b c:World} {bs p:Nat} (h:a.grownBy b (some bs)) (g:b.grownBy c (some p)) (hp:a.heap.size ≤ p):a.grownBy c (some bs) :=
 ⟨g.os.trans h.os,g.tape.trans h.tape,g.output.trans h.output,Nat.le_trans h.size g.size,fun k hk hne => (g.block k (Nat.lt_of_lt_of_le hk h.size) (fun e => by injection e with e;omega)).trans (h.block k hk hne)⟩
theorem rep_any (x:UInt8) (z:Int) (c:Nat) (hz:z = (c:Int)) (hc:c ≤ 100) (W:World):Calls Tryz.prog 209 #[.string ⟨#[x]⟩,.int .i64 z] W fun e w' => ∃ s:ByteArray,e = .returned (.string s) ∧ s.size = c ∧ Below W.heap.size W w':=by
 subst hz
 refine (Tryz.strings_Repeat ⟨#[x]⟩ c W (by omega) (by show 1 * c ≤ _;omega)).mono ?_
 rintro e w' ⟨h,b⟩
 refine ⟨_,h,?_,b⟩
 show (Lib.repeatL [x] c).toArray.size = c
 simp [Lib.repeatL_length]
structure SpS (w:World) (bs K:Nat) (H:Frz) (W:World) (p2 p3:Nat) (k:Int) (s:ByteArray) (W':World):Prop where
 lw:Lw w bs K H W'
 g:W.grownBy W' (some bs)
 h2:W'.heap[p2]? = some (.cells #[.int .i64 0,.string ⟨#[]⟩] 39 (0,0))
 h3:W'.heap[p3]? = some (.cells #[.int .i64 k,.string s] 39 (0,0))
 b2:bs < p2
 b3:p2 < p3
 w2:W.heap.size ≤ p2
 n2:H p2 = none
 n3:H p3 = none
section
variable {w W W' W2:World} {bs K K' p2 p3:Nat} {H:Frz} {k:Int} {s:ByteArray}
theorem SpS.asked (h:SpS w bs K H W p2 p3 k s W') (L:Lw w bs K' H W2) (gq:W'.grownBy W2 (some bs)):SpS w bs K' H W p2 p3 k s W2 :=
 have hb2:=h.b2
 have hb3:=h.b3
 ⟨L,h.g.trans gq,(gq.block _ (lt_of_heap h.h2) (fun e => by injection e with e;omega)).trans h.h2,(gq.block _ (lt_of_heap h.h3) (fun e => by injection e with e;omega)).trans h.h3,h.b2,h.b3,h.w2,h.n2,h.n3⟩
theorem SpS.below (h:SpS w bs K H W p2 p3 k s W') (hb:Below W'.heap.size W' W2):SpS w bs K H W p2 p3 k s W2 :=
 ⟨h.lw.call hb,⟨hb.os.trans h.g.os,hb.tape.trans h.g.tape,hb.output.trans h.g.output,Nat.le_trans h.g.size hb.size,fun k hk hne => (hb.block k (Nat.lt_of_lt_of_le hk h.g.size)).trans (h.g.block k hk hne)⟩,(hb.block _ (lt_of_heap h.h2)).trans h.h2,(hb.block _ (lt_of_heap h.h3)).trans h.h3,h.b2,h.b3,h.w2,h.n2,h.n3⟩
theorem SpS.alloc (h:SpS w bs K H W p2 p3 k s W') (o:Obj):SpS w bs K H W p2 p3 k s (W'.alloc o):=h.below ((Below.refl _ _).alloc (Nat.le_refl _) _)
theorem SpS.set0 (h:SpS w bs K H W p2 p3 k s W') (x:Int):SpS w bs K H W p2 p3 x s (W'.setCell ⟨p3,0,none⟩ (.int .i64 x)) :=
 have hb2:=h.b2
 have hb3:=h.b3
 have hw2:=h.w2
 have g:=grown_setC (World.grownBy.refl W' (some p3)) 0 (.int .i64 x)
 ⟨h.lw.setCell (p:=⟨p3,0,none⟩) (by show bs < p3;omega) h.n3 _,grown_new h.g g (by omega),(g.block _ (lt_of_heap h.h2) (fun e => by injection e with e;omega)).trans h.h2,by have:=h.h3;simp [World.setCell,Array.getElem?_modify,this],h.b2,h.b3,h.w2,h.n2,h.n3⟩
theorem SpS.set1 (h:SpS w bs K H W p2 p3 k s W') (x:ByteArray):SpS w bs K H W p2 p3 k x (W'.setCell ⟨p3,1,none⟩ (.string x)) :=
 have hb2:=h.b2
 have hb3:=h.b3
 have hw2:=h.w2
 have g:=grown_setC (World.grownBy.refl W' (some p3)) 1 (.string x)
 ⟨h.lw.setCell (p:=⟨p3,1,none⟩) (by show bs < p3;omega) h.n3 _,grown_new h.g g (by omega),(g.block _ (lt_of_heap h.h2) (fun e => by injection e with e;omega)).trans h.h2,by have:=h.h3;simp [World.setCell,Array.getElem?_modify,this],h.b2,h.b3,h.w2,h.n2,h.n3⟩
theorem SpS.post (h:SpS w bs K H W p2 p3 k s W') (hs:s.size ≤ 3000) (hK:K ≤ K' + 8):SpPost w bs K' H W (.returned (.agg #[.int .i64 k,.string s])) ((W'.setCell ⟨p2,0,none⟩ (.int .i64 k)).setCell ⟨p2,1,none⟩ (.string s)) :=
 ⟨k,s,rfl,hs,((h.lw.more hK).setCell (p:=⟨p2,0,none⟩) h.b2 h.n2 _).setCell (p:=⟨p2,1,none⟩) h.b2 h.n2 _,grown_new h.g (grown_set2 W' p2 _ _) h.w2⟩
end
set_option maxHeartbeats 4000000 in
set_option maxRecDepth 100000 in
theorem Lw.spoiledId {w W:World} {bs K:Nat} {H:Frz} (h:Lw w bs K H W) (hP:PoolIn H) (hK:K ≤ 10000000) :
  Calls Tryz.prog 151 #[.pointer (some ⟨bs,0,none⟩)] W (SpPost w bs K H W):=by
 have hbs:=h.lt
 have HP:=Lib.hid hP
 have L1:=Lib.hid (h.alloc (.cells #[.int .i64 0,.string ⟨#[]⟩] 39))
 have HK:=Lib.hid (heap_alloc_new W (.cells #[.int .i64 0,.string ⟨#[]⟩] 39))
 have HG:=Lib.hid (grown_alloc (w:=W) (.cells #[.int .i64 0,.string ⟨#[]⟩] 39) (some bs))
 have HH:=Lib.hid (h.fin.none_ (Nat.le_refl W.heap.size))
 clear h hP
 go_enter Tryz.func151,Tryz.ntmps151
 go_wp2_with fail
 refine (L1.out.next' 10 (by omega) (by omega) (by omega)).mono ?_
 rintro e W2 ⟨q,rfl,q0,q1,Lq,gq,hz2⟩
 obtain ⟨i,rfl⟩:∃ i:Nat,(i:Int) = q:=⟨q.toNat,by omega⟩
 have hi:i < poolL.length:=by show i < 10;omega
 obtain ⟨c0,c1⟩:=HP.out i hi
 replace c0:=Lq.fin.cell c0
 replace c1:=Lq.fin.cell c1
 have hsz:Hid ((⟨poolL[i].2.toArray⟩:ByteArray).size ≤ 1000):=(pool_ok i hi).2
 have hsz1:W2.heap.size = W.heap.size + 1:=by rw [hz2,sizeA]
 have C3:Hid (SpS w bs (K + 1) H W W.heap.size W2.heap.size poolL[i].1 ⟨poolL[i].2.toArray⟩ (W2.alloc (.cells #[.int .i64 poolL[i].1,.string ⟨poolL[i].2.toArray⟩] 39))) :=
  ⟨Lq.alloc _,HG.out.trans (gq.trans (grown_alloc _ (some bs))),(heap_lt (by omega)).trans ((gq.block _ (lt_of_heap HK.out) (fun e => by injection e with e;omega)).trans HK.out),heap_alloc_new _ _,hbs,by omega,Nat.le_refl _,HH.out,Lq.fin.none_ (Nat.le_refl _)⟩
 generalize poolL[i].1 = k0 at *
 generalize (⟨poolL[i].2.toArray⟩:ByteArray) = s0 at *
 clear Lq gq hsz1 hz2 HK HG L1
 go_upto_region 2 with (fail)
 generalize hp2:W.heap.size = p2 at *
 generalize hp3:W2.heap.size = p3 at *
 generalize W2.alloc (.cells #[.int .i64 k0,.string s0] 39) = W3 at *
 have HP2:=Lib.hid hp2
 have HP3:=Lib.hid hp3
 clear hp2 hp3 c0 c1
 go_wp2_with fail
 refine (C3.out.lw.next' 5 (by omega) (by omega) (by omega)).mono ?_
 rintro e W4 ⟨z,rfl,z0,z1,Lq,gq,-⟩
 have C4:=Lib.hid (C3.out.asked Lq gq)
 clear Lq gq C3
 have hd0:W4.cell? ⟨p3,0,none⟩ = some (.int .i64 k0):=cell_h C4.out.h3 0 rfl
 have hd1:W4.cell? ⟨p3,1,none⟩ = some (.string s0):=cell_h C4.out.h3 1 rfl
 clear hd0 hd1
 by_cases hz0:z = 0
 ·subst hz0
  have hne:=C4.out.lw.lt
  have hIn:Ints (W4.alloc (.cells #[.int .i64 0,.int .i64 1,.int .i64 2,.int .i64 3,.int .i64 4,.int .i64 5] 3)) (some ⟨W4.heap.size,0,none⟩) [0,1,2,3,4,5]:=Ints.of_row (heap_at rfl) rfl
  have HIn:=Lib.hid hIn
  clear hIn
  go_wp2_with fail
  refine ((C4.out.alloc _).lw.pick _ _ [0,1,2,3,4,5] HIn.out (fun b off e => by injection e with e;injection e with e1 e2;omega) (by simp) (by simp) (by omega)).mono ?_
  rintro e W5 ⟨kz,rfl,hkz,Lq,gq,-⟩
  have C5:=Lib.hid ((C4.out.alloc _).asked Lq gq)
  clear Lq gq HIn hne C4
  have d0:W5.cell? ⟨p3,0,none⟩ = some (.int .i64 k0):=cell_h C5.out.h3 0 rfl
  have f0:=froz_h C5.out.h3 0
  have C6:=Lib.hid (C5.out.set0 kz)
  clear C5
  go_upto_region 8 with (fail)
  generalize W5.setCell ⟨p3,0,none⟩ (.int .i64 kz) = W6 at *
  clear d0 f0
  have d0:W6.cell? ⟨p3,0,none⟩ = some (.int .i64 kz):=cell_h C6.out.h3 0 rfl
  have d1:W6.cell? ⟨p3,1,none⟩ = some (.string s0):=cell_h C6.out.h3 1 rfl
  have e0:W6.cell? ⟨p2,0,none⟩ = some (.int .i64 0):=cell_h C6.out.h2 0 rfl
  have e1:W6.cell? ⟨p2,1,none⟩ = some (.string ⟨#[]⟩):=cell_h C6.out.h2 1 rfl
  have f0:=froz_h C6.out.h2 0
  have f1:=froz_h C6.out.h2 1
  have HF:=Lib.hid (C6.out.post (K':=K) (by have:=hsz.out;omega) (by omega))
  have hk2:=set2 C6.out.h2 (.int .i64 kz) (.string s0)
  have HK2:=Lib.hid hk2
  clear hk2 C6
  go_wp2_with fail
  have u0:=cell_h HK2.out 0 (v:=.int .i64 kz) rfl
  have u1:=cell_h HK2.out 1 (v:=.string s0) rfl
  refine bodyPost_ret (v:=.agg #[.int .i64 kz,.string s0]) (by simp [results,Tryz.results151,go_sem,u0,u1]) rfl HF.out
 ·by_cases hz1:z = 1
  ·subst hz1
   go_wp2_with fail
   refine (rep_any 97 _ 65 rfl (by omega) _).mono ?_
   rintro e W5 ⟨r1,rfl,hr1,hb⟩
   have C5:=Lib.hid (C4.out.below hb)
   clear hb C4
   go_wp2_with fail
   refine (rep_any 98 _ 31 rfl (by omega) _).mono ?_
   rintro e W6 ⟨r2,rfl,hr2,hb⟩
   have C6:=Lib.hid (C5.out.below hb)
   clear hb C5
   go_wp2_with fail
   refine (rep_any 97 _ 64 rfl (by omega) _).mono ?_
   rintro e W7 ⟨r3,rfl,hr3,hb⟩
   have C7:=Lib.hid (C6.out.below hb)
   clear hb C6
   go_wp2_with fail
   refine (rep_any 98 _ 12 rfl (by omega) _).mono ?_
   rintro e W8 ⟨r4,rfl,hr4,hb⟩
   have C8:=Lib.hid (C7.out.below hb)
   clear hb C7
   have hne:=C8.out.lw.lt
   have hSt:StrsW (W8.alloc (.cells #[.string (⟨#[]⟩:ByteArray),.string (⟨#[97,64,98]⟩:ByteArray),.string (⟨#[64,98,46,100,101]⟩:ByteArray),.string (⟨#[97,64,98,46,100,101,46]⟩:ByteArray),.string (⟨#[97,46,46,98,64,98,46,100,101]⟩:ByteArray),.string (⟨#[46,97,64,98,46,100,101]⟩:ByteArray),.string (⟨#[97,64,45,98,46,100,101]⟩:ByteArray),.string (⟨#[97,64,98,46,100,101,64,99,46,100,101]⟩:ByteArray),.string (⟨#[43,48,49,50,51,52,53,54]⟩:ByteArray),.string (⟨#[43,49,50,51,52,53,54]⟩:ByteArray),.string (⟨#[43,49,50,51,52,53,54,55,56,57,48,49,50,51,52,53,54]⟩:ByteArray),.string (⟨#[52,57,51,48,49,50,51,52,53,54]⟩:ByteArray),.string (⟨#[65,66,49,52]⟩:ByteArray),.string (⟨#[65,66,49]⟩:ByteArray),.string (⟨#[65,66,67]⟩:ByteArray),.string (r1 ++ ⟨#[64,98,46,100,101]⟩),.string ((⟨#[97,64]⟩:ByteArray) ++ r2 ++ ⟨#[46,100,101]⟩),.string (r3 ++ ⟨#[64]⟩ ++ r4 ++ ⟨#[46,100,101]⟩)] 9)) (some ⟨W8.heap.size,0,none⟩) [(⟨#[]⟩:ByteArray),(⟨#[97,64,98]⟩:ByteArray),(⟨#[64,98,46,100,101]⟩:ByteArray),(⟨#[97,64,98,46,100,101,46]⟩:ByteArray),(⟨#[97,46,46,98,64,98,46,100,101]⟩:ByteArray),(⟨#[46,97,64,98,46,100,101]⟩:ByteArray),(⟨#[97,64,45,98,46,100,101]⟩:ByteArray),(⟨#[97,64,98,46,100,101,64,99,46,100,101]⟩:ByteArray),(⟨#[43,48,49,50,51,52,53,54]⟩:ByteArray),(⟨#[43,49,50,51,52,53,54]⟩:ByteArray),(⟨#[43,49,50,51,52,53,54,55,56,57,48,49,50,51,52,53,54]⟩:ByteArray),(⟨#[52,57,51,48,49,50,51,52,53,54]⟩:ByteArray),(⟨#[65,66,49,52]⟩:ByteArray),(⟨#[65,66,49]⟩:ByteArray),(⟨#[65,66,67]⟩:ByteArray),(r1 ++ ⟨#[64,98,46,100,101]⟩),((⟨#[97,64]⟩:ByteArray) ++ r2 ++ ⟨#[46,100,101]⟩),(r3 ++ ⟨#[64]⟩ ++ r4 ++ ⟨#[46,100,101]⟩)]:=StrsW.of_row (heap_at rfl) rfl
   have HSt:=Lib.hid hSt
   clear hSt
   go_wp2_with fail
   refine ((C8.out.alloc _).lw.one _ _ [(⟨#[]⟩:ByteArray),(⟨#[97,64,98]⟩:ByteArray),(⟨#[64,98,46,100,101]⟩:ByteArray),(⟨#[97,64,98,46,100,101,46]⟩:ByteArray),(⟨#[97,46,46,98,64,98,46,100,101]⟩:ByteArray),(⟨#[46,97,64,98,46,100,101]⟩:ByteArray),(⟨#[97,64,45,98,46,100,101]⟩:ByteArray),(⟨#[97,64,98,46,100,101,64,99,46,100,101]⟩:ByteArray),(⟨#[43,48,49,50,51,52,53,54]⟩:ByteArray),(⟨#[43,49,50,51,52,53,54]⟩:ByteArray),(⟨#[43,49,50,51,52,53,54,55,56,57,48,49,50,51,52,53,54]⟩:ByteArray),(⟨#[52,57,51,48,49,50,51,52,53,54]⟩:ByteArray),(⟨#[65,66,49,52]⟩:ByteArray),(⟨#[65,66,49]⟩:ByteArray),(⟨#[65,66,67]⟩:ByteArray),(r1 ++ ⟨#[64,98,46,100,101]⟩),((⟨#[97,64]⟩:ByteArray) ++ r2 ++ ⟨#[46,100,101]⟩),(r3 ++ ⟨#[64]⟩ ++ r4 ++ ⟨#[46,100,101]⟩)] HSt.out (fun b off e => by injection e with e;injection e with e1 e2;omega) (by simp) (by simp) (by omega)).mono ?_
   rintro e W9 ⟨s1,rfl,hs1,Lq,gq,-⟩
   have C9:=Lib.hid ((C8.out.alloc _).asked Lq gq)
   clear Lq gq HSt hne C8
   have HS1:Hid (s1.size ≤ 3000):=by
    simp only [List.mem_cons,List.not_mem_nil,or_false] at hs1
    show _ ≤ _
    rcases hs1 with rfl | rfl | rfl | rfl | rfl | rfl | rfl | rfl | rfl | rfl | rfl | rfl | rfl | rfl | rfl | rfl | rfl | rfl <;> first | decide | (simp only [ByteArray.size_append,hr1,hr2,hr3,hr4];decide)
   clear hs1
   have d1:W9.cell? ⟨p3,1,none⟩ = some (.string s0):=cell_h C9.out.h3 1 rfl
   have f1:=froz_h C9.out.h3 1
   have C10:=Lib.hid (C9.out.set1 s1)
   clear C9
   go_upto_region 8 with (fail)
   generalize W9.setCell ⟨p3,1,none⟩ (.string s1) = W10 at *
   clear d1 f1
   have d0:W10.cell? ⟨p3,0,none⟩ = some (.int .i64 k0):=cell_h C10.out.h3 0 rfl
   have d1:W10.cell? ⟨p3,1,none⟩ = some (.string s1):=cell_h C10.out.h3 1 rfl
   have e0:W10.cell? ⟨p2,0,none⟩ = some (.int .i64 0):=cell_h C10.out.h2 0 rfl
   have e1:W10.cell? ⟨p2,1,none⟩ = some (.string ⟨#[]⟩):=cell_h C10.out.h2 1 rfl
   have f0:=froz_h C10.out.h2 0
   have f1:=froz_h C10.out.h2 1
   have HF:=Lib.hid (C10.out.post (K':=K) HS1.out (by omega))
   have hk2:=set2 C10.out.h2 (.int .i64 k0) (.string s1)
   have HK2:=Lib.hid hk2
   clear hk2 C10
   go_wp2_with fail
   have u0:=cell_h HK2.out 0 (v:=.int .i64 k0) rfl
   have u1:=cell_h HK2.out 1 (v:=.string s1) rfl
   refine bodyPost_ret (v:=.agg #[.int .i64 k0,.string s1]) (by simp [results,Tryz.results151,go_sem,u0,u1]) rfl HF.out
  ·have hb0:(z == 0) = false:=by simp;exact hz0
   have hb1:(z == 1) = false:=by simp;exact hz1
   have d1:W4.cell? ⟨p3,1,none⟩ = some (.string s0):=cell_h C4.out.h3 1 rfl
   go_wp2_with fail
   clear d1
   refine (C4.out.lw.changed (by omega) s0 _ (by have:=hsz.out;omega) (by decide)).mono ?_
   rintro e W5 ⟨s1,rfl,hs1,Lq,gq⟩
   have C5:=Lib.hid (C4.out.asked Lq gq)
   have HS1:Hid (s1.size ≤ 3000):=by
    have:=hsz.out
    have h9:(⟨#[97,98,48,64,46,45,43,95,65,90]⟩:ByteArray).size = 10:=rfl
    show _ ≤ _
    omega
   clear Lq gq C4 hs1
   have d1:W5.cell? ⟨p3,1,none⟩ = some (.string s0):=cell_h C5.out.h3 1 rfl
   have f1:=froz_h C5.out.h3 1
   have C6:=Lib.hid (C5.out.set1 s1)
   clear C5
   go_upto_region 8 with (fail)
   generalize W5.setCell ⟨p3,1,none⟩ (.string s1) = W6 at *
   clear d1 f1
   have d0:W6.cell? ⟨p3,0,none⟩ = some (.int .i64 k0):=cell_h C6.out.h3 0 rfl
   have d1:W6.cell? ⟨p3,1,none⟩ = some (.string s1):=cell_h C6.out.h3 1 rfl
   have e0:W6.cell? ⟨p2,0,none⟩ = some (.int .i64 0):=cell_h C6.out.h2 0 rfl
   have e1:W6.cell? ⟨p2,1,none⟩ = some (.string ⟨#[]⟩):=cell_h C6.out.h2 1 rfl
   have f0:=froz_h C6.out.h2 0
   have f1:=froz_h C6.out.h2 1
   have HF:=Lib.hid (C6.out.post (K':=K) HS1.out (by omega))
   have hk2:=set2 C6.out.h2 (.int .i64 k0) (.string s1)
   have HK2:=Lib.hid hk2
   clear hk2 C6
   go_wp2_with fail
   have u0:=cell_h HK2.out 0 (v:=.int .i64 k0) rfl
   have u1:=cell_h HK2.out 1 (v:=.string s1) rfl
   refine bodyPost_ret (v:=.agg #[.int .i64 k0,.string s1]) (by simp [results,Tryz.results151,go_sem,u0,u1]) rfl HF.out
open Go.RowKit
structure Sk (w:World) (bs K:Nat) (H:Frz) (W W':World):Prop where
 lw:Lw w bs K H W'
 g:W.grownBy W' (some bs)
section
variable {w W W' W2:World} {bs K K':Nat} {H:Frz}
theorem Sk.start (h:Lw w bs K H W):Sk w bs K H W W:=⟨h,World.grownBy.refl _ _⟩
theorem Sk.asked (h:Sk w bs K H W W') (L:Lw w bs K' H W2) (gq:W'.grownBy W2 (some bs)):Sk w bs K' H W W2:=⟨L,h.g.trans gq⟩
theorem Sk.below (h:Sk w bs K H W W') (hb:Below W'.heap.size W' W2):Sk w bs K H W W2 :=
 ⟨h.lw.call hb,⟨hb.os.trans h.g.os,hb.tape.trans h.g.tape,hb.output.trans h.g.output,Nat.le_trans h.g.size hb.size,fun k hk hne => (hb.block k (Nat.lt_of_lt_of_le hk h.g.size)).trans (h.g.block k hk hne)⟩⟩
theorem Sk.alloc (h:Sk w bs K H W W') (o:Obj):Sk w bs K H W (W'.alloc o):=h.below ((Below.refl _ _).alloc (Nat.le_refl _) _)
end
theorem rep2_any (x:UInt8) (z:Int) (c:Nat) (hz:z = (c:Int)) (hc:c ≤ 1000) (W:World):Calls Tryz.prog 209 #[.string ⟨#[x]⟩,.int .i64 z] W fun e w' => ∃ s:ByteArray,e = .returned (.string s) ∧ s.size = c ∧ Below W.heap.size W w':=by
 subst hz
 refine (Tryz.strings_Repeat ⟨#[x]⟩ c W (by omega) (by show 1 * c ≤ _;omega)).mono ?_
 rintro e w' ⟨h,b⟩
 refine ⟨_,h,?_,b⟩
 show (Lib.repeatL [x] c).toArray.size = c
 simp [Lib.repeatL_length]
theorem sizeK {s:ByteArray} {l:List ByteArray} (h:s ∈ l) (hl:l.all (fun x => decide (x.size ≤ 1000)) = true):s.size ≤ 1000:=by
 have:=List.all_eq_true.1 hl s h
 simpa using this
end Go.Proofs.YtfmnlpmgakgleaaGreatDoor
