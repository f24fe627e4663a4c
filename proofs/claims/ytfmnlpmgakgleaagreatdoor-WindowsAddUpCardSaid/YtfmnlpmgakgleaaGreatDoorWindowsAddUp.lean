/- What is counted in windows that follow each other adds up: the law. -/
import Derived.Test.YtfmnlpmgakgleaaGreatDoorGAW
import Derived.Test.YtfmnlpmgakgleaaGreatDoorGBC
import Derived.Test.YtfmnlpmgakgleaaGreatDoorGAY
import Derived.Test.YtfmnlpmgakgleaaGreatDoorGBD
import Derived.Test.YtfmnlpmgakgleaaGreatDoorGAZ
namespace Go.Proofs.YtfmnlpmgakgleaaGreatDoor
set_option linter.unusedVariables false
open Go.RowKit
def φWi (g B0 i:Nat) (c c2:Int) (n:Nat) (x:Value) (W:World):Prop :=
 match n with
 | 0 => x = .slice (some ⟨g,0,none⟩) 4 4
 | 1 => x = .int .i64 (i:Int)
 | 2 => x = .pointer (some ⟨g,i,none⟩)
 | 3 => x = .int .i64 c
 | 4 => x = .slice (some ⟨g,0,none⟩) 4 4
 | 5 => x = .int .i64 (i:Int)
 | 6 => x = .int .i64 ((i:Int) + 1)
 | 7 => x = .pointer (some ⟨g,i + 1,none⟩)
 | 8 => x = .int .i64 c2
 | 9 => x = .agg #[.int .i64 c,.int .i64 c2]
 | _ => ∃ q:Nat,x = .pointer (some ⟨q,0,none⟩) ∧ B0 ≤ q ∧ W.heap[q]? = some (.cells #[.int .i64 0,.int .i64 0] 35 (0,0))
theorem φWi_mono {g B0 i:Nat} {c c2:Int} (n:Nat) (x:Value) (W W':World) (_:n < 11) (he:Below W.heap.size W W') (h:φWi g B0 i c c2 n x W):φWi g B0 i c c2 n x W':=by
 match n,h with
 | 0,h => exact h
 | 1,h => exact h
 | 2,h => exact h
 | 3,h => exact h
 | 4,h => exact h
 | 5,h => exact h
 | 6,h => exact h
 | 7,h => exact h
 | 8,h => exact h
 | 9,h => exact h
 | n + 10,h => obtain ⟨q,h1,h2,h3⟩:=h;exact ⟨q,h1,h2,(he.block q (lt_of_heap h3)).trans h3⟩
theorem cas_fd {es cur:List EvD} {i B:Nat} {v:Value} {w w2:World} {b:EvD} (h:CAs es cur i B v w) (g1:w.grownBy w2 v.ownBlock) (hb:FdOwn w B b):FdOwn w2 B b:=by
 refine Orow.kept hb g1 ?_
 rcases h.row.2 with ⟨h1,_⟩ | ⟨q9,cp9,cur9,h1,_,hh9,_⟩
 ·rw [h1]
  cases e:(Value.slice b.fa b.fields.length b.fc).ownBlock with
  | none => exact Or.inl rfl
  | some z => exact Or.inr (fun e => by cases e)
 ·rw [h1]
  exact Or.inr (Orow.not_at hb hh9 (by decide))
theorem cas_same {l p q:List EvD} {B C:Nat} {v1 v2:Value} {w:World} (h1:CAs l p l.length B v1 w) (h2:CAs l q l.length C v2 w) (hf:∀ d ∈ l,d.fields.length ≤ 1000000) (hl:l.length ≤ 1000000) :
  ∃ A ca A2 cb,v1 = .slice A p.length ca ∧ v2 = .slice A2 q.length cb ∧ Calls Tryz.prog 19 #[.slice A p.length ca,.slice A2 q.length cb] w fun e w' => e = .returned (.bool true) ∧ Below w.heap.size w w':=by
 obtain ⟨A,ca,e1,-,hR1⟩:=h1.row.memN (n:=0) (Nat.zero_le _)
 obtain ⟨A2,cb,e2,-,hR2⟩:=h2.row.memN (n:=0) (Nat.zero_le _)
 have hl1:=h1.len
 have hl2:=h2.len
 have key:∀ {x:List EvD} {B:Nat} {v:Value},CAs l x l.length B v w → ∀ d ∈ x,∃ a ∈ l,SameE a d ∧ Rw (wholeH w) d.fa 4 fFd d.fields:=fun {x B v} h d hd => by
  obtain ⟨i,hi,rfl⟩:=List.getElem_of_mem hd
  have hil:i < l.length:=by rw [← h.len];exact hi
  obtain ⟨hs,ho⟩:=h.done i l[i] x[i] (List.getElem?_eq_getElem hil) (List.getElem?_eq_getElem hi)
  obtain ⟨A9,c9,e9,-,hR9⟩:=Orow.memN ho (n:=0) (Nat.zero_le _)
  simp only [Value.slice.injEq,true_and] at e9
  obtain ⟨rfl,-⟩:=e9
  exact ⟨l[i],List.getElem_mem hil,hs,hR9.le (newH_le _ _)⟩
 refine ⟨A,ca,A2,cb,e1,e2,sameEvents_any (wholeH w) A A2 ca cb p q w (wholeH_in w) (by omega) (fun i g1 g2 => ?_) (hR1.le (newH_le _ _)) (hR2.le (newH_le _ _)) (fun d hd => ?_) (fun d hd => ?_) (by omega)⟩
 ·have hil:i < l.length:=by omega
  obtain ⟨a1,a2,a3,a4,a5,a6⟩:=(h1.done i l[i] p[i] (List.getElem?_eq_getElem hil) (List.getElem?_eq_getElem g1)).1
  obtain ⟨b1,b2,b3,b4,b5,b6⟩:=(h2.done i l[i] q[i] (List.getElem?_eq_getElem hil) (List.getElem?_eq_getElem g2)).1
  exact ⟨a1.symm.trans b1,a2.symm.trans b2,a3.symm.trans b3,a4.symm.trans b4,a5.symm.trans b5,a6.symm.trans b6⟩
 ·obtain ⟨a,ha,hs,hr⟩:=key h1 d hd
  exact ⟨hr,by rw [← hs.2.2.2.2.2];exact hf a ha⟩
 ·obtain ⟨a,ha,hs,hr⟩:=key h2 d hd
  exact hr
theorem take_sum {cs:List Int} {j:Nat} (h:j < cs.length):(cs.take (j + 1)).sum = (cs.take j).sum + cs[j]:=by
 rw [List.take_succ_eq_append_getElem h,List.sum_append]
 simp
theorem sum_bnd {cs:List Int} (h:∀ c ∈ cs,0 ≤ c ∧ c ≤ 1000):∀ {j:Nat},j ≤ 1000 → 0 ≤ (cs.take j).sum ∧ (cs.take j).sum ≤ 1000 * j
 | 0,_ => by simp
 | j + 1,hj => by
  have ih:=sum_bnd h (j:=j) (by omega)
  by_cases g:j < cs.length
  ·rw [take_sum g]
   have:=h _ (List.getElem_mem g)
   omega
  ·rw [List.take_of_length_le (by omega)] at ih ⊢
   omega
def wnL1:List ByteArray:=[⟨#[98,117,121]⟩,⟨#[111,112,101,110]⟩,⟨#[118,105,101,119]⟩]
def wnL2:List ByteArray:=[⟨#[97,103,101]⟩,⟨#[118,105,112]⟩,⟨#[106,111,105,110,101,100]⟩]
theorem wn_key1:∀ s ∈ wnL1,isKey s = true ∧ s.size ≤ 1000:=by decide +kernel
theorem wn_key2:∀ s ∈ wnL2,isKey s = true ∧ s.size ≤ 1000:=by decide +kernel
def φWn (bs:Nat) (i:Nat) (x:Value) (W:World):Prop :=
 match i with
 | 0 => ∃ g,x = .slice (some ⟨g,0,none⟩) 3 3 ∧ AtM bs W g (.cells #[.string ⟨#[98,117,121]⟩,.string ⟨#[111,112,101,110]⟩,.string ⟨#[118,105,101,119]⟩] 9 (0,0))
 | 1 => x = .pointer (some ⟨bs,0,none⟩)
 | 2 => ∃ z:Nat,x = .int .i64 (z:Int) ∧ z < 3
 | 3 => ∃ g z:Nat,x = .pointer (some ⟨g,z,none⟩) ∧ z < 3 ∧ AtM bs W g (.cells #[.string ⟨#[98,117,121]⟩,.string ⟨#[111,112,101,110]⟩,.string ⟨#[118,105,101,119]⟩] 9 (0,0))
 | 4 => ∃ s:ByteArray,x = .string s ∧ s ∈ wnL1
 | 5 => ∃ g,x = .slice (some ⟨g,0,none⟩) 3 3 ∧ AtM bs W g (.cells #[.string ⟨#[97,103,101]⟩,.string ⟨#[118,105,112]⟩,.string ⟨#[106,111,105,110,101,100]⟩] 9 (0,0))
 | 6 => x = .pointer (some ⟨bs,0,none⟩)
 | 7 => ∃ z:Nat,x = .int .i64 (z:Int) ∧ z < 3
 | 8 => ∃ g z:Nat,x = .pointer (some ⟨g,z,none⟩) ∧ z < 3 ∧ AtM bs W g (.cells #[.string ⟨#[97,103,101]⟩,.string ⟨#[118,105,112]⟩,.string ⟨#[106,111,105,110,101,100]⟩] 9 (0,0))
 | 9 => ∃ s:ByteArray,x = .string s ∧ s ∈ wnL2
 | _ => ∃ s:ByteArray,x = .string s ∧ s ∈ wnL1
theorem at_posW {d:EvD} (h:evE okT d = 0):0 ≤ d.at_:=by
 unfold evE at h
 split at h
 ·cases h
 ·split at h
  ·cases h
  ·rename_i g
   have:=Decidable.not_not.1 g
   omega
theorem φWn_mono {bs:Nat} (i:Nat) (x:Value) (W W':World) (_:i < 11) (he:W.grownBy W' (some bs)) (h:φWn bs i x W):φWn bs i x W':=by
 match i,h with
 | 0,h => obtain ⟨g,h1,h2⟩:=h;exact ⟨g,h1,h2.keep he⟩
 | 1,h => exact h
 | 2,h => exact h
 | 3,h => obtain ⟨g,z,h1,h2,h3⟩:=h;exact ⟨g,z,h1,h2,h3.keep he⟩
 | 4,h => exact h
 | 5,h => obtain ⟨g,h1,h2⟩:=h;exact ⟨g,h1,h2.keep he⟩
 | 6,h => exact h
 | 7,h => exact h
 | 8,h => obtain ⟨g,z,h1,h2,h3⟩:=h;exact ⟨g,z,h1,h2,h3.keep he⟩
 | 9,h => exact h
 | n + 10,h => exact h
set_option maxHeartbeats 8000000 in
set_option maxRecDepth 100000 in
theorem windowsAddUp_walk (a0:Option Addr) (len0 cap0:Nat) (z0:List Int) (w:World) (w0:IsRow .i64 w a0 len0 cap0 z0) (hG:GlobE w) :
  Calls Tryz.prog 4 #[.slice a0 len0 cap0] w fun e w' => e = .returned (.bool true) ∧ Below w.heap.size w w':=by
 have L:=Lw.whole w0
 have HG:=Lib.hid hG
 clear hG w0
 go_enter Tryz.func4,Tryz.ntmps4
 go_wp2_with fail
 refine (L.range 1 14 (by omega) (by omega) (by omega) (by omega)).mono ?_
 rintro e W1 ⟨m,rfl,m1,m2,L1,-,-⟩
 obtain ⟨m,rfl⟩:=Int.eq_ofNat_of_zero_le (show 0 ≤ m by omega)
 have HL1:=Lib.hid L1
 clear L1 L
 go_wp2_with fail
 refine (HL1.out.rightEvents (by omega) HG.out.pool HG.out.names HG.out.enames HG.out.utf HG.out.mlen m (by omega)).mono ?_
 rintro e W2 ⟨A,cap,es,H2,rfl,le2,-,L2,hR,hI,hr,hel,hcap,hat⟩
 have HU:=Lib.hid (HG.out.utf.le le2)
 have HM:=Lib.hid (HG.out.mlen.le le2)
 have HL2:=Lib.hid (L2.more (K':=200000) (by omega))
 have HR:=Lib.hid hR
 have HI:=Lib.hid hI
 have HRT:=Lib.hid hr
 have HAT:Hid (∀ d ∈ es,0 ≤ d.at_ ∧ d.at_ ≤ 100000):=fun d hd => ⟨at_posW (hr.one d hd),hat d hd⟩
 have hen:es.length ≤ 1000:=by omega
 clear le2 L2 hR hI hr hat HL1 HG hel
 generalize hbs:w.heap.size = bs at HL2 ⊢
 have HBS:=Lib.hid hbs
 clear hbs
 go_upto_region 3 with (fail)
 refine wp_region_conc 11 150 (φWn bs) (fun n W' => Lw w bs (200000 + n) H2 W') (fun a b => a.grownBy b (some bs)) (by kernel_rfl) (by kernel_rfl) (by rfl) (HL2.out.call ((Below.refl _ _).drew)) φWn_mono ?_ ?_
 ·intro n o hn ho a W3 kk hkk hJ hkn
  have hcs:n = 0 ∨ n = 1 ∨ n = 2 ∨ n = 3 ∨ n = 4 ∨ n = 5 ∨ n = 6 ∨ n = 7 ∨ n = 8 ∨ n = 9 ∨ n = 10:=by omega
  rcases hcs with rfl | rfl | rfl | rfl | rfl | rfl | rfl | rfl | rfl | rfl | rfl
  ·obtain rfl:=Option.some.inj ho
   clear hkn ho
   simp only [OpV,execOp]
   simp [go_sem]
   exact ⟨⟨W3.heap.size,rfl,AtM.new _ hJ.lt⟩,(hJ.alloc _).more (by omega),grown_alloc _ _⟩
  ·obtain rfl:=Option.some.inj ho
   exact ⟨hkn 3 (by decide),hJ.more (by omega),World.grownBy.refl _ _⟩
  ·obtain rfl:=Option.some.inj ho
   have h1:=slotB_of (hkn 32 (by decide):a.tmps.getD 32 undef = .pointer (some ⟨bs,0,none⟩))
   clear hkn ho
   simp only [OpV,execOp]
   simp [go_sem,h1]
   exact (hJ.next' 3 (by omega) (by omega) (by omega)).mono fun e w'' ⟨z,he,z0,z1,L',g',_⟩ => ⟨_,he,(by obtain ⟨y,rfl⟩:=Int.eq_ofNat_of_zero_le z0;exact ⟨y,rfl,by omega⟩),L'.more (by omega),g'⟩
  ·obtain rfl:=Option.some.inj ho
   obtain ⟨g,h1,h3⟩:∃ g,a.tmps.getD 31 undef = .slice (some ⟨g,0,none⟩) 3 3 ∧ AtM bs W3 g (.cells #[.string ⟨#[98,117,121]⟩,.string ⟨#[111,112,101,110]⟩,.string ⟨#[118,105,101,119]⟩] 9 (0,0)):=hkn 31 (by decide)
   obtain ⟨z,h2,hz⟩:∃ z:Nat,a.tmps.getD 33 undef = .int .i64 (z:Int) ∧ z < 3:=hkn 33 (by decide)
   replace h1:=slotB_of h1
   replace h2:=slotB_of h2
   have hz2:(z:Int) < 3:=by omega
   clear hkn ho
   simp only [OpV,execOp]
   simp [go_sem,h1,h2,hz2]
   exact ⟨⟨g,z,rfl,hz,h3⟩,hJ.more (by omega),World.grownBy.refl _ _⟩
  ·obtain rfl:=Option.some.inj ho
   obtain ⟨g,z,h1,hz,h3⟩:∃ g z:Nat,a.tmps.getD 34 undef = .pointer (some ⟨g,z,none⟩) ∧ z < 3 ∧ AtM bs W3 g (.cells #[.string ⟨#[98,117,121]⟩,.string ⟨#[111,112,101,110]⟩,.string ⟨#[118,105,101,119]⟩] 9 (0,0)):=hkn 34 (by decide)
   replace h1:=slotB_of h1
   have hcell:∃ s ∈ wnL1,W3.cell? ⟨g,z,none⟩ = some (.string s):=by
    have hz3:z = 0 ∨ z = 1 ∨ z = 2:=by omega
    rcases hz3 with rfl | rfl | rfl
    ·exact ⟨_,by simp [wnL1],cell_h h3.2 0 rfl⟩
    ·exact ⟨_,by simp [wnL1],cell_h h3.2 1 rfl⟩
    ·exact ⟨_,by simp [wnL1],cell_h h3.2 2 rfl⟩
   obtain ⟨s,hs,hc⟩:=hcell
   clear hkn ho
   simp only [OpV,execOp]
   simp [go_sem,h1,hc]
   exact ⟨⟨s,rfl,hs⟩,hJ.more (by omega),World.grownBy.refl _ _⟩
  ·obtain rfl:=Option.some.inj ho
   clear hkn ho
   simp only [OpV,execOp]
   simp [go_sem]
   exact ⟨⟨W3.heap.size,rfl,AtM.new _ hJ.lt⟩,(hJ.alloc _).more (by omega),grown_alloc _ _⟩
  ·obtain rfl:=Option.some.inj ho
   exact ⟨hkn 3 (by decide),hJ.more (by omega),World.grownBy.refl _ _⟩
  ·obtain rfl:=Option.some.inj ho
   have h1:=slotB_of (hkn 37 (by decide):a.tmps.getD 37 undef = .pointer (some ⟨bs,0,none⟩))
   clear hkn ho
   simp only [OpV,execOp]
   simp [go_sem,h1]
   exact (hJ.next' 3 (by omega) (by omega) (by omega)).mono fun e w'' ⟨z,he,z0,z1,L',g',_⟩ => ⟨_,he,(by obtain ⟨y,rfl⟩:=Int.eq_ofNat_of_zero_le z0;exact ⟨y,rfl,by omega⟩),L'.more (by omega),g'⟩
  ·obtain rfl:=Option.some.inj ho
   obtain ⟨g,h1,h3⟩:∃ g,a.tmps.getD 36 undef = .slice (some ⟨g,0,none⟩) 3 3 ∧ AtM bs W3 g (.cells #[.string ⟨#[97,103,101]⟩,.string ⟨#[118,105,112]⟩,.string ⟨#[106,111,105,110,101,100]⟩] 9 (0,0)):=hkn 36 (by decide)
   obtain ⟨z,h2,hz⟩:∃ z:Nat,a.tmps.getD 38 undef = .int .i64 (z:Int) ∧ z < 3:=hkn 38 (by decide)
   replace h1:=slotB_of h1
   replace h2:=slotB_of h2
   have hz2:(z:Int) < 3:=by omega
   clear hkn ho
   simp only [OpV,execOp]
   simp [go_sem,h1,h2,hz2]
   exact ⟨⟨g,z,rfl,hz,h3⟩,hJ.more (by omega),World.grownBy.refl _ _⟩
  ·obtain rfl:=Option.some.inj ho
   obtain ⟨g,z,h1,hz,h3⟩:∃ g z:Nat,a.tmps.getD 39 undef = .pointer (some ⟨g,z,none⟩) ∧ z < 3 ∧ AtM bs W3 g (.cells #[.string ⟨#[97,103,101]⟩,.string ⟨#[118,105,112]⟩,.string ⟨#[106,111,105,110,101,100]⟩] 9 (0,0)):=hkn 39 (by decide)
   replace h1:=slotB_of h1
   have hcell:∃ s ∈ wnL2,W3.cell? ⟨g,z,none⟩ = some (.string s):=by
    have hz3:z = 0 ∨ z = 1 ∨ z = 2:=by omega
    rcases hz3 with rfl | rfl | rfl
    ·exact ⟨_,by simp [wnL2],cell_h h3.2 0 rfl⟩
    ·exact ⟨_,by simp [wnL2],cell_h h3.2 1 rfl⟩
    ·exact ⟨_,by simp [wnL2],cell_h h3.2 2 rfl⟩
   obtain ⟨s,hs,hc⟩:=hcell
   clear hkn ho
   simp only [OpV,execOp]
   simp [go_sem,h1,hc]
   exact ⟨⟨s,rfl,hs⟩,hJ.more (by omega),World.grownBy.refl _ _⟩
  ·obtain rfl:=Option.some.inj ho
   exact ⟨hkn 35 (by decide),hJ.more (by omega),World.grownBy.refl _ _⟩
 ·intro yv W9 hJ9 hφ
  obtain ⟨nm,e4,hnm⟩:∃ s:ByteArray,yv 10 = .string s ∧ s ∈ wnL1:=hφ 10 (by omega)
  obtain ⟨fd,e9,hfd⟩:∃ s:ByteArray,yv 9 = .string s ∧ s ∈ wnL2:=hφ 9 (by omega)
  have HK1:=Lib.hid (wn_key1 nm hnm)
  have HK2:=Lib.hid (wn_key2 fd hfd)
  have HL9:=Lib.hid hJ9
  clear hφ hJ9 hnm hfd HL2
  simp only [List.drop_succ_cons,List.drop_zero,List.take_succ_cons,List.take_zero,putAll,Nat.reduceAdd,e4,e9]
  clear e4 e9
  generalize yv 0 = y0
  generalize yv 1 = y1
  generalize yv 2 = y2
  generalize yv 3 = y3
  generalize yv 4 = y4
  generalize yv 5 = y5
  generalize yv 6 = y6
  generalize yv 7 = y7
  generalize yv 8 = y8
  go_wp2_with fail
  refine (HL9.out.range 0 3000 (by omega) (by omega) (by omega) (by omega)).mono ?_
  rintro e W10 ⟨ca,rfl,ca0,ca1,L10,-,-⟩
  have HL10:=Lib.hid L10
  clear L10 HL9
  go_wp2_with fail
  refine (HL10.out.range 0 9000 (by omega) (by omega) (by omega) (by omega)).mono ?_
  rintro e W11 ⟨cb,rfl,cb0,cb1,L11,-,-⟩
  obtain ⟨lo,hi,hcut,hlo,hlh,hhi⟩:=cuts_sorted (a:=ca) (b:=cb) ⟨ca0,ca1⟩ ⟨cb0,cb1⟩
  have HCUT:=Lib.hid hcut
  have hbg:Hid (bs < W11.heap.size):=L11.lt
  have hng:Hid (H2 W11.heap.size = none):=L11.fin.none_ (Nat.le_refl _)
  have HIN:=Lib.hid (L11.alloc (.cells #[.int .i64 0,.int .i64 ca,.int .i64 cb,.int .i64 4321440] 3))
  have HO:Hid (Orow (W11.alloc (.cells #[.int .i64 0,.int .i64 ca,.int .i64 cb,.int .i64 4321440] 3)) W11.heap.size 3 1 fI (.slice (some ⟨W11.heap.size,0,none⟩) 4 4) [0,ca,cb,4321440]):=Orow.of_blk (rest:=[]) (heap_at rfl) (Nat.le_refl _) (by unfold maxLen;omega) (Nat.le_refl _) rfl
  have HSO:=Lib.hid (sort_I W11.heap.size _ _ _ HO.out (by simp))
  rw [hcut] at HSO
  clear L11 HL10 hcut HO
  go_wp2_with fail
  refine HSO.out.mono ?_
  rintro e W12 ⟨rfl,hO12,hg12⟩
  obtain ⟨g,cp,rest,hv,-,hBg,hgl,-,hk,-⟩:=hO12.form (by simp)
  simp only [Value.slice.injEq,Option.some.injEq,Addr.mk.injEq,and_true] at hv
  obtain ⟨rfl,-,rfl⟩:=hv
  have L12:=HIN.out.grown hg12 (fun q hq => by injection hq with hq;subst hq;exact ⟨hbg.out,hng.out⟩)
  have HBW:=Lib.hid L12.bel
  have HI12:=Lib.hid L12.fin
  have HKB:=Lib.hid hk
  generalize W11.heap.size = g at *
  clear L12 HIN hO12 hg12 HSO hk
  have HXB0:=heap_alloc_new W12 (.cells #[.int .i64 0,.int .i64 4321440] 35)
  have HKB0:=HKB.out.keep (new1 (w:=W12) (.cells #[.int .i64 0,.int .i64 4321440] 35))
  have HBW0:=HBW.out.trans ((new1 (w:=W12) (.cells #[.int .i64 0,.int .i64 4321440] 35)).mono HBW.out.size)
  have hin0:=HI12.out.below (new1 (w:=W12) (.cells #[.int .i64 0,.int .i64 4321440] 35))
  go_upto_region 7 with (fail)
  have HXB:=Lib.hid HXB0
  have HKB2:=Lib.hid HKB0
  have HBW2:=Lib.hid HBW0
  have HIN13:=Lib.hid hin0
  clear HXB0 HKB0 HBW0 hin0 HKB HBW HI12
  generalize W12.alloc (.cells #[.int .i64 0,.int .i64 4321440] 35) = W13 at *
  generalize W12.heap.size = xb at *
  have hle13:H2.Le (wholeH W13):=fun b o h => HIN13.out b o h
  have HW13:Hid ((wholeH W13).In W13):=wholeH_in W13
  have HR13:=Lib.hid (HR.out.le hle13)
  have HI13:Hid (∀ d ∈ es,EvIn (wholeH W13) d):=fun d hd => (HI.out d hd).le hle13
  have HU13:=Lib.hid (HU.out.le hle13)
  have HM13:=Lib.hid (HM.out.le hle13)
  have HXH:Hid (wholeH W13 xb = some (.cells #[.int .i64 0,.int .i64 4321440] 35 (0,0))):=HXB.out
  have HNM:=Lib.hid (fun x (hx:WinOk x) W (hW:(wholeH W13).In W) => Named_any (wholeH W13) HU13.out HM13.out A cap es nm x W hW HR13.out HI13.out hen HRT.out hx HK1.out)
  have HSM:=Lib.hid (fun x (hx:WinOk x) W (hW:(wholeH W13).In W) => sum_any (wholeH W13) HU13.out HM13.out A cap es nm fd x W hW HR13.out HI13.out hen HRT.out hx HK1.out HK2.out)
  have x0:=cell_h HXB.out 0 (v:=.int .i64 0) rfl
  have x1:=cell_h HXB.out 1 (v:=.int .i64 4321440) rfl
  have hwa:WinOk allW:=⟨Int.le_refl _,by show (0:Int) ≤ 4321440;omega,Int.le_refl _⟩
  clear hle13
  go_wp2_with fail
  refine (HNM.out allW hwa W13 HW13.out).mono ?_
  rintro e W14 ⟨v9,cur9,rfl,hC9,hb14⟩
  obtain ⟨A9,c9,rfl,-⟩:=hC9.row.slice
  have HC9:=Lib.hid hC9
  have HB14:=Lib.hid hb14
  have y0:=lift_cell x0 _ hb14
  have y1:=lift_cell x1 _ hb14
  clear hC9 hb14 x0 x1
  go_wp2_with fail
  refine (HSM.out allW hwa W14 (HW13.out.below HB14.out)).mono ?_
  rintro e W15 ⟨rfl,hb15⟩
  have HC15:=Lib.hid (HC9.out.call hb15)
  have HB15:=Lib.hid (HB14.out.trans (hb15.mono HB14.out.size))
  clear hb15 y0 y1 HC9 HB14
  go_wp2_with fail
  have hC0:Hid (CAs (namedF es nm ⟨0,0⟩) [] (namedF es nm ⟨0,0⟩).length W15.heap.size (.slice none 0 0) W15):=by
   have e0:namedF es nm ⟨0,0⟩ = []:=by
    unfold namedF
    rw [List.filter_eq_nil_iff]
    intro x hx
    unfold inW
    simp
    try (intro _ _;omega)
   rw [e0]
   exact ⟨Orow.nil _ _ _ _ _,rfl,fun j hj => rfl,fun j a b hj h1 h2 => by simp at h1⟩
  have HS0:Hid (sumF fd (namedF es nm allW) = sumF fd (namedF es nm allW) - sumF fd (namedF es nm ⟨0,0⟩)):=by
   have e0:sumF fd (namedF es nm ⟨0,0⟩) = 0:=by
    have:namedF es nm ⟨0,0⟩ = []:=by
     unfold namedF
     rw [List.filter_eq_nil_iff]
     intro x hx
     unfold inW
     simp
     try (intro _ _;omega)
    rw [this]
    rfl
   show _ = _
   omega
  go_loopw [11,13,70] (fun ts tv t wr => ∃ (i:Nat) (c:Int) (ps:List EvD),i ≤ 3 ∧ t = .int .i64 i ∧ ts = .int .i64 (sumF fd (namedF es nm allW) - sumF fd (namedF es nm ⟨0,c⟩)) ∧ [0,lo,hi,4321440][i]? = some c ∧ Hid (CAs (namedF es nm ⟨0,c⟩) ps (namedF es nm ⟨0,c⟩).length W15.heap.size tv wr) ∧ Hid (Below W15.heap.size W15 wr)) (fun _ _ t _ => 3 - (intOf t).toNat)
  case atStart => exact ⟨0,0,[],by omega,rfl,by rw [← HS0.out],rfl,hC0,Below.refl _ _⟩
  case round =>
   obtain ⟨i,c,ps,hi3,rfl,rfl,hcs,hC,hb⟩:=hrel
   clear hC0 HS0
   by_cases hlt:i < 3
   ·obtain ⟨c2,hc2⟩:∃ c2,[0,lo,hi,4321440][i + 1]? = some c2:=by
     have h3:i = 0 ∨ i = 1 ∨ i = 2:=by omega
     rcases h3 with rfl | rfl | rfl <;> exact ⟨_,rfl⟩
    have hw:0 ≤ c ∧ c ≤ c2 ∧ c2 ≤ 4321440:=by
     have h3:i = 0 ∨ i = 1 ∨ i = 2:=by omega
     rcases h3 with rfl | rfl | rfl <;> simp at hcs hc2 <;> omega
    have hkw:=HKB2.out.keep (HB15.out.trans (hb.out.mono HB15.out.size))
    have kc1:wr.cell? ⟨g,i,none⟩ = some (.int .i64 c):=by
     have h1:=hkw.cell1 i (by simp;omega)
     have e:([0,lo,hi,4321440]:List Int)[i]'(by simp;omega) = c:=by
      rw [List.getElem?_eq_getElem (by simp;omega)] at hcs
      exact Option.some.inj hcs
     rw [h1,e];rfl
    have kc2:wr.cell? ⟨g,i + 1,none⟩ = some (.int .i64 c2):=by
     have h1:=hkw.cell1 (i + 1) (by simp;omega)
     have e:([0,lo,hi,4321440]:List Int)[i + 1]'(by simp;omega) = c2:=by
      rw [List.getElem?_eq_getElem (by simp;omega)] at hc2
      exact Option.some.inj hc2
     rw [h1,e];rfl
    have KC1:=lift_cell kc1
    have KC2:=lift_cell kc2
    have hi4:(i:Int) < 4:=by omega
    have hi5:(i:Int) + 1 < 4:=by omega
    have hi6:(0:Int) ≤ (i:Int) + 1:=by omega
    have wi1:IntKind.i64.wrap ((i:Int) + 1) = (i:Int) + 1:=IntWalk.i64_in _ (by omega)
    have HCS:=Lib.hid hcs
    have HC2:=Lib.hid hc2
    clear kc1 kc2 hkw hcs hc2
    go_upto_region 15 with (fail)
    refine wp_region_conc 11 150 (φWi g wr.heap.size i c c2) (fun n W' => Below wr.heap.size wr W') (fun a b => Below a.heap.size a b) (by kernel_rfl) (by kernel_rfl) (by rfl) ((Below.refl _ _).drew) φWi_mono ?_ ?_
    ·intro n o hn ho a W3 kk hkk hJ hkn
     have hcs:n = 0 ∨ n = 1 ∨ n = 2 ∨ n = 3 ∨ n = 4 ∨ n = 5 ∨ n = 6 ∨ n = 7 ∨ n = 8 ∨ n = 9 ∨ n = 10:=by omega
     rcases hcs with rfl | rfl | rfl | rfl | rfl | rfl | rfl | rfl | rfl | rfl | rfl
     ·obtain rfl:=Option.some.inj ho
      exact ⟨hkn 7 (by decide),hJ,Below.refl _ _⟩
     ·obtain rfl:=Option.some.inj ho
      exact ⟨hkn 14 (by decide),hJ,Below.refl _ _⟩
     ·obtain rfl:=Option.some.inj ho
      have h1:=slotB_of (hkn 73 (by decide):a.tmps.getD 73 undef = .slice (some ⟨g,0,none⟩) 4 4)
      have h2:=slotB_of (hkn 74 (by decide):a.tmps.getD 74 undef = .int .i64 (i:Int))
      clear hkn ho
      simp only [OpV,execOp]
      simp [go_sem,h1,h2,hi4]
      exact ⟨rfl,hJ,Below.refl _ _⟩
     ·obtain rfl:=Option.some.inj ho
      have h1:=slotB_of (hkn 75 (by decide):a.tmps.getD 75 undef = .pointer (some ⟨g,i,none⟩))
      have hc:=KC1 _ hJ
      clear hkn ho
      simp only [OpV,execOp]
      simp [go_sem,h1,hc]
      exact ⟨rfl,hJ,Below.refl _ _⟩
     ·obtain rfl:=Option.some.inj ho
      exact ⟨hkn 7 (by decide),hJ,Below.refl _ _⟩
     ·obtain rfl:=Option.some.inj ho
      exact ⟨hkn 14 (by decide),hJ,Below.refl _ _⟩
     ·obtain rfl:=Option.some.inj ho
      have h1:=slotB_of (hkn 78 (by decide):a.tmps.getD 78 undef = .int .i64 (i:Int))
      clear hkn ho
      simp only [OpV,execOp]
      simp [go_sem,h1,wi1]
      exact ⟨rfl,hJ,Below.refl _ _⟩
     ·obtain rfl:=Option.some.inj ho
      have h1:=slotB_of (hkn 77 (by decide):a.tmps.getD 77 undef = .slice (some ⟨g,0,none⟩) 4 4)
      have h2:=slotB_of (hkn 79 (by decide):a.tmps.getD 79 undef = .int .i64 ((i:Int) + 1))
      clear hkn ho
      simp only [OpV,execOp]
      simp [go_sem,h1,h2,hi5]
      exact ⟨rfl,hJ,Below.refl _ _⟩
     ·obtain rfl:=Option.some.inj ho
      have h1:=slotB_of (hkn 80 (by decide):a.tmps.getD 80 undef = .pointer (some ⟨g,i + 1,none⟩))
      have hc:=KC2 _ hJ
      clear hkn ho
      simp only [OpV,execOp]
      simp [go_sem,h1,hc]
      exact ⟨rfl,hJ,Below.refl _ _⟩
     ·obtain rfl:=Option.some.inj ho
      have h1:=slotB_of (hkn 76 (by decide):a.tmps.getD 76 undef = .int .i64 c)
      have h2:=slotB_of (hkn 81 (by decide):a.tmps.getD 81 undef = .int .i64 c2)
      clear hkn ho
      simp only [OpV,execOp]
      simp [go_sem,h1,h2]
      exact ⟨rfl,hJ,Below.refl _ _⟩
     ·obtain rfl:=Option.some.inj ho
      clear hkn ho
      simp only [OpV,execOp]
      simp [go_sem]
      exact ⟨⟨W3.heap.size,rfl,hJ.size,heap_alloc_new _ _⟩,hJ.trans ((new1 _).mono hJ.size),new1 _⟩
    ·intro yv W9 hJ9 hφ
     have e9:yv 9 = .agg #[.int .i64 c,.int .i64 c2]:=hφ 9 (by omega)
     obtain ⟨q,e10,hq0,hq⟩:∃ q:Nat,yv 10 = .pointer (some ⟨q,0,none⟩) ∧ wr.heap.size ≤ q ∧ W9.heap[q]? = some (.cells #[.int .i64 0,.int .i64 0] 35 (0,0)):=hφ 10 (by omega)
     have HJ9:=Lib.hid hJ9
     clear hφ hJ9 KC1 KC2
     simp only [List.drop_succ_cons,List.drop_zero,List.take_succ_cons,List.take_zero,putAll,Nat.reduceAdd,e9,e10]
     clear e9 e10
     generalize yv 0 = y0
     generalize yv 1 = y1
     generalize yv 2 = y2
     generalize yv 3 = y3
     generalize yv 4 = y4
     generalize yv 5 = y5
     generalize yv 6 = y6
     generalize yv 7 = y7
     generalize yv 8 = y8
     have f0:=froz_h hq 0
     have f1:=froz_h hq 1
     have k0:=cell_h hq 0 (v:=.int .i64 0) rfl
     have k1:=cell_h hq 1 (v:=.int .i64 0) rfl
     have hg9:=vm_setc (vm_setc (World.grownBy.refl W9 (some q)) 0 (.int .i64 c)) 1 (.int .i64 c2)
     have hh9:((W9.setCell ⟨q,0,none⟩ (.int .i64 c)).setCell ⟨q,1,none⟩ (.int .i64 c2)).heap[q]? = some (.cells #[.int .i64 c,.int .i64 c2] 35 (0,0)):=by simp [World.setCell,Array.getElem?_modify,hq]
     have HB9:=Lib.hid (HJ9.out.grown hg9 HJ9.out.size (fun k hk => by injection hk with hk;omega))
     have HH9:=Lib.hid hh9
     clear hg9 hh9 hq HJ9
     go_upto_region 16 with (fail)
     clear f0 f1 k0 k1
     generalize (W9.setCell ⟨q,0,none⟩ (.int .i64 c)).setCell ⟨q,1,none⟩ (.int .i64 c2) = W10 at *
     have HBT:=Lib.hid (hb.out.trans (HB9.out.mono hb.out.size))
     have HC10:=Lib.hid (hC.out.call HB9.out)
     have HIN10:=Lib.hid (HW13.out.below (HB15.out.trans (HBT.out.mono HB15.out.size)))
     have v0:=cell_h HH9.out 0 (v:=.int .i64 c) rfl
     have v1:=cell_h HH9.out 1 (v:=.int .i64 c2) rfl
     clear hb hC HB9
     go_wp2_with fail
     refine (HNM.out ⟨c,c2⟩ hw W10 HIN10.out).mono ?_
     rintro e W16 ⟨v16,cur16,rfl,hC16,hb16⟩
     obtain ⟨A16,c16,rfl,-⟩:=hC16.row.slice
     have HC16:=Lib.hid hC16
     have HC17:=Lib.hid (HC10.out.call hb16)
     have HBU:=Lib.hid (HBT.out.trans (hb16.mono HBT.out.size))
     have HIN16:=Lib.hid (HIN10.out.below hb16)
     have u0:=lift_cell v0 _ hb16
     have u1:=lift_cell v1 _ hb16
     clear hC16 hb16 v0 v1 HC10 HIN10
     go_wp2_with fail
     refine (HSM.out ⟨c,c2⟩ hw W16 HIN16.out).mono ?_
     rintro e W18 ⟨rfl,hb18⟩
     have HC18:=Lib.hid (HC17.out.call hb18)
     have HD18:=Lib.hid (HC16.out.call hb18)
     have HBV:=Lib.hid (HBU.out.trans (hb18.mono HBU.out.size))
     clear hb18 u0 u1 HC16 HC17 HIN16
     obtain ⟨i0,hi0,hz0,hz1,hz2⟩:=info_parts infoEv9
     obtain ⟨A',k',H',hv',-,hin',-,hR',-⟩:=Orow.freezeN HD18.out.row Frz.empty
     simp only [Value.slice.injEq,true_and] at hv'
     obtain ⟨rfl,rfl⟩:=hv'
     have HRR:=Lib.hid (hR'.le (show H'.Le (wholeH W18) from fun b o h => hin' (Frz.In.empty _) b o h))
     clear hR' hin'
     have hsb:∀ x,-1000000000000000 ≤ sumF fd (namedF es nm x) ∧ sumF fd (namedF es nm x) ≤ 1000000000000000:=fun x => by
      have h1:=sumF_le (field:=fd) (es:=namedF es nm x) (fun d hd => HRT.out.one d (List.mem_filter.1 hd).1) (namedF es nm x).length
      rw [List.take_length] at h1
      have h2:=List.length_filter_le (inW nm x) es
      unfold namedF at h1 ⊢
      omega
     have b0:=hsb allW
     have b1:=hsb ⟨0,c⟩
     have b2:=hsb ⟨c,c2⟩
     have hspl:=named_split (name:=nm) (a:=0) (b:=c) (c:=c2) hw.1 hw.2.1 HRT.out.ord
     have hsm:sumF fd (namedF es nm ⟨0,c2⟩) = sumF fd (namedF es nm ⟨0,c⟩) + sumF fd (namedF es nm ⟨c,c2⟩):=by rw [← hspl,sumF_app]
     have HSPL:=Lib.hid hspl
     have HSUM:=Lib.hid hsm
     have wsub:IntKind.i64.wrap (sumF fd (namedF es nm allW) - sumF fd (namedF es nm ⟨0,c⟩) - sumF fd (namedF es nm ⟨c,c2⟩)) = sumF fd (namedF es nm allW) - sumF fd (namedF es nm ⟨0,c⟩) - sumF fd (namedF es nm ⟨c,c2⟩):=IntWalk.i64_in _ (by omega)
     clear hspl hsm hsb
     have hlp:ps.length + cur16.length ≤ 4294967296:=by
      have h1:=HC18.out.len
      have h2:=HD18.out.len
      have h3:=List.length_filter_le (inW nm ⟨0,c⟩) es
      have h4:=List.length_filter_le (inW nm ⟨c,c2⟩) es
      unfold namedF at h1 h2
      omega
     have hB9:=HBV.out.size
     have HKEEP:=Lib.hid (fun w2 b g1 hb => cas_fd HC18.out (w2:=w2) (b:=b) g1 hb)
     go_wp2_with (at_builtin;refine wpList_rows rfl _ _ 26 rfl W15.heap.size 42 i0 (.agg #[.string ⟨#[]⟩,.string ⟨#[]⟩,.int .i64 0,.int .i64 0,.string ⟨#[]⟩,.slice none 0 0]) 6 88 Tryz.underlying26 hi0 hz0 hz1 hz2 rfl (by decide) fEv _ ps rfl HC18.out.row (wholeH W18) (wholeH_in W18) _ _ cur16 HRR.out rfl (fun d _ m => fEv_one d m) hlp (by omega) hB9 ?_;intro v1 w2 o1 g1 at1;have HOX:=Lib.hid o1;have HGX:=Lib.hid g1;clear o1 g1 at1)
     have hsz10:W15.heap.size ≤ W10.heap.size:=HBT.out.size
     have HCF:=Lib.hid (cas_join HC18.out.len (fun j a b ha hb => ⟨(HC18.out.done j a b ha hb).1,HKEEP.out _ _ HGX.out (HC18.out.done j a b ha hb).2⟩) HD18.out.len (fun j a b ha hb => ⟨(HD18.out.done j a b ha hb).1,HKEEP.out _ _ HGX.out (Orow.mono (HD18.out.done j a b ha hb).2 hsz10)⟩) HOX.out)
     rw [HSPL.out] at HCF
     have HBF:=Lib.hid (HBV.out.grown HGX.out HBV.out.size (fun k hk => (HC18.out.row.lt hk).1))
     go_roundw
     case rel => exact ⟨i + 1,c2,_,by omega,by go_num,by rw [HSUM.out];congr 1;omega,HC2.out,HCF,HBF⟩
     case measure => simp [intOf];omega
   ·have hi:i = 3:=by omega
    subst hi
    have hcc:c = 4321440:=by simpa using hcs.symm
    subst hcc
    have hz:sumF fd (namedF es nm allW) - sumF fd (namedF es nm ⟨0,4321440⟩) = 0:=by show sumF fd (namedF es nm ⟨0,4321440⟩) - _ = _;exact Int.sub_self _
    rw [hz]
    have HIN2:=Lib.hid (HW13.out.below (HB15.out.trans (hb.out.mono HB15.out.size)))
    have HC15b:=Lib.hid (HC15.out.call hb.out)
    have hss:Hid ((wr.alloc (.cells #[.int .i64 0,.int .i64 0] 57)).heap[wr.heap.size]? = some (.cells #[.int .i64 0,.int .i64 0] 57 (0,0))):=heap_alloc_new _ _
    have HINA:=Lib.hid (HIN2.out.alloc (.cells #[.int .i64 0,.int .i64 0] 57))
    have HCA:=Lib.hid (HC15b.out.call (new1 (w:=wr) (.cells #[.int .i64 0,.int .i64 0] 57)))
    have HCB:=Lib.hid (hC.out.call (new1 (w:=wr) (.cells #[.int .i64 0,.int .i64 0] 57)))
    have HBA:=Lib.hid (hb.out.trans ((new1 (w:=wr) (.cells #[.int .i64 0,.int .i64 0] 57)).mono hb.out.size))
    have HSE:=Lib.hid (fun sb W (hW:(wholeH W13).In W) hs => series_any (wholeH W13) HU13.out HM13.out A cap es nm ⟨#[117,116,99]⟩ sb W hW HR13.out HI13.out hen HRT.out HAT HK1.out (by decide +kernel) hs)
    clear hcs hC hb HC15b HIN2 hz hlt hi3
    go_wp2_with fail
    refine (HSE.out _ _ HINA.out hss.out).mono ?_
    rintro e W20 ⟨g9,cs,rfl,hK9,hl9,hs9,hb9,hB20⟩
    have HK9:=Lib.hid hK9
    have HL9:=Lib.hid hl9
    have HBN:=Lib.hid hb9
    have HC20:=Lib.hid (HCA.out.call hB20)
    have HD20:=Lib.hid (HCB.out.call hB20)
    have HB20:=Lib.hid (HBA.out.trans (hB20.mono HBA.out.size))
    have HS9:=Lib.hid hs9
    clear hK9 hl9 hb9 hs9 hB20 hss HINA HCA HCB HBA HSE
    go_wp2_with fail
    go_loopw [21,122] (fun tn t wz => ∃ j:Nat,j ≤ 701 ∧ t = .int .i64 j ∧ tn = .int .i64 (cs.take j).sum ∧ wz = W20) (fun _ t _ => 701 - (intOf t).toNat)
    case atStart => exact ⟨0,by omega,rfl,rfl,rfl⟩
    case round =>
     obtain ⟨j,hj,rfl,rfl,rfl⟩:=hrel
     by_cases hlt:j < 701
     ·have hjl:j < cs.length:=by rw [HL9.out];exact hlt
      have hc:=HK9.out.cell1 j hjl
      have hc1:wr.cell? ⟨g9,j,none⟩ = some (.int .i64 cs[j]):=by rw [hc];rfl
      have HSU:=Lib.hid (take_sum hjl)
      have hb1:=sum_bnd HBN.out (j:=j) (by omega)
      have hb2:=HBN.out _ (List.getElem_mem hjl)
      clear hc
      generalize cs[j] = cj at *
      generalize (cs.take j).sum = sj at *
      have wadd:IntKind.i64.wrap (sj + cj) = sj + cj:=IntWalk.i64_in _ (by omega)
      have hlt2:(j:Int) < 701:=by omega
      go_wp2_with fail
      go_roundw
      case rel => exact ⟨j + 1,by omega,by go_num,by rw [HSU.out],by simp⟩
      case measure => simp [intOf];omega
     ·have hj7:j = 701:=by omega
      subst hj7
      have hst:(cs.take 701).sum = cntN es nm:=by rw [List.take_of_length_le (by rw [HL9.out];omega),HS9.out]
      rw [hst]
      obtain ⟨pA,pc,qA,qc,e1,e2,hcs9⟩:=cas_same HD20.out HC20.out (fun d hd => by have:=(HI13.out d (List.mem_filter.1 hd).1).fl;omega) (by have:=List.length_filter_le (inW nm allW) es;unfold namedF;show (es.filter (inW nm allW)).length ≤ _;omega)
      subst e1
      simp only [Value.slice.injEq,true_and] at e2
      obtain ⟨rfl,rfl⟩:=e2
      have HSA:=Lib.hid hcs9
      have hwl:(cur9.length:Int) = cntN es nm:=by
       have:=HC20.out.len
       unfold cntN
       omega
      have HHA:=Lib.hid (fun W hb => happenings_any (wholeH W13) HU13.out HM13.out W (HW13.out.below hb))
      have HB99:=Lib.hid (HB15.out.trans (HB20.out.mono HB15.out.size))
      have HBW99:=Lib.hid (HBW2.out.trans (HB99.out.mono HBW2.out.size))
      have hww:(cntN es nm == (cur9.length:Int)) = true:=by rw [hwl];simp
      clear hst hcs9 hwl hlt hj
      generalize cntN es nm = cn at *
      go_wp2_with fail
      refine HSA.out.mono ?_
      rintro e W30 ⟨rfl,hb30⟩
      have HB30:=Lib.hid (HB99.out.trans (hb30.mono HB99.out.size))
      have HBW30:=Lib.hid (HBW99.out.trans (hb30.mono HBW99.out.size))
      clear hb30
      go_wp2_with fail
      refine (HHA.out W30 HB30.out).mono ?_
      rintro e W31 ⟨rfl,hb31⟩
      have HBW31:=Lib.hid (HBW30.out.trans (hb31.mono HBW30.out.size))
      clear hb31
      go_wp2_with fail
      go_ret
      exact ⟨rfl,HBW31.out⟩
end Go.Proofs.YtfmnlpmgakgleaaGreatDoor
