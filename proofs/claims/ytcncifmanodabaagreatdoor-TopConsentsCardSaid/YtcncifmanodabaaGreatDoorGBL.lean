/- Texts of this claim, put together: Crowd, BoxV. -/
import Derived.Test.YtcncifmanodabaaGreatDoorGBK
import Derived.Test.YtcncifmanodabaaGreatDoorGBJ
import Derived.Test.YtcncifmanodabaaGreatDoorGAC
import Derived.Test.YtcncifmanodabaaGreatDoorGAV
import Derived.Test.YtcncifmanodabaaGreatDoorGAB
import Derived.Deep.MidRow
namespace Go.Proofs.YtcncifmanodabaaGreatDoor
set_option linter.unusedVariables false
open Go.RowKit
def kindsB:List Int:=[1,2,3,4]
def openR (g:Nat):RulD:=⟨some ⟨g,0,none⟩,4,kindsB,2000,none,0,[],none,0,[]⟩
theorem open_rul (g:Nat):rulE (openR g) = 0:=by
 have h:rulE (openR g) = rulE (openR 0):=rfl
 rw [h]
 decide +kernel
set_option maxHeartbeats 1000000 in
set_option maxRecDepth 100000 in
theorem open_any (w:World):Calls Tryz.prog 15 #[] w fun e w' => Below w.heap.size w w' ∧ ∃ g,e = .returned (.agg #[.slice (some ⟨g,0,none⟩) 4 4,.int .i64 2000,.slice none 0 0,.slice none 0 0]) ∧ w.heap.size ≤ g ∧ w'.heap[g]? = some (.cells #[.int .i64 1,.int .i64 2,.int .i64 3,.int .i64 4] 3 (0,0)):=by
 have hn:=new2 (w:=w) (.cells #[.slice (some ⟨w.heap.size + 1,0,none⟩) 4 4,.int .i64 2000,.slice none 0 0,.slice none 0 0] 60) (.cells #[.int .i64 1,.int .i64 2,.int .i64 3,.int .i64 4] 3)
 have h1:((w.alloc (.cells #[.slice (some ⟨w.heap.size + 1,0,none⟩) 4 4,.int .i64 2000,.slice none 0 0,.slice none 0 0] 60)).alloc (.cells #[.int .i64 1,.int .i64 2,.int .i64 3,.int .i64 4] 3)).heap[w.heap.size]? = some (.cells #[.slice (some ⟨w.heap.size + 1,0,none⟩) 4 4,.int .i64 2000,.slice none 0 0,.slice none 0 0] 60):=(heap_lt (by simp)).trans (heap_alloc_new _ _)
 have h2:((w.alloc (.cells #[.slice (some ⟨w.heap.size + 1,0,none⟩) 4 4,.int .i64 2000,.slice none 0 0,.slice none 0 0] 60)).alloc (.cells #[.int .i64 1,.int .i64 2,.int .i64 3,.int .i64 4] 3)).heap[w.heap.size + 1]? = some (.cells #[.int .i64 1,.int .i64 2,.int .i64 3,.int .i64 4] 3):=heap_at (by simp)
 have HB:=Lib.hid hn
 have H2:=Lib.hid h2
 have z0:=cell_h h1 0 rfl
 have z1:=cell_h h1 1 rfl
 have z2:=cell_h h1 2 rfl
 have z3:=cell_h h1 3 rfl
 clear hn h1 h2
 go_enter Tryz.func15,Tryz.ntmps15
 go_wp2_with fail
 exact bodyPost_ret (v:=.agg #[.slice (some ⟨w.heap.size + 1,0,none⟩) 4 4,.int .i64 2000,.slice none 0 0,.slice none 0 0]) (by simp [results,Tryz.results15,go_sem,z0,z1,z2,z3]) rfl ⟨HB.out,w.heap.size + 1,rfl,by omega,H2.out⟩
structure CrowdQ (bs as_:List PerD):Prop where
 sub:∀ b ∈ bs,∀ a ∈ as_,∀ x ∈ b.ids,x ∈ a.ids → ∀ y ∈ b.ids,y ∈ a.ids
 valA:∀ a ∈ as_,∀ x ∈ a.ids,idErr x.kind x.text = 0
 lenA:∀ a ∈ as_,a.ids.length ≤ 100
 lenB:∀ b ∈ bs,b.ids.length ≤ 100
 cntA:as_.length ≤ 1000
 cntB:bs.length ≤ 1000
def CrowdPost (w:World) (bs K:Nat) (H:Frz) (e:Ending) (W':World):Prop :=
 ∃ (H':Frz) (A:Option Addr) (n cap:Nat) (Ab:Option Addr) (cb:Nat) (pb:List PerD) (Aa:Option Addr) (ca:Nat) (pa:List PerD) (ok:Bool),e = .returned (.tuple #[.slice A n cap,.slice Ab pb.length cb,.slice Aa pa.length ca,.bool ok]) ∧ Lw w bs (K + 6000) H' W' ∧ H.Le H' ∧ (ok = false → n = 0) ∧ PerIn H' Ab pb ∧ PerIn H' Aa pa ∧ CrowdQ pb pa
theorem idErr_kind {k:Int} {s:ByteArray} (h:idErr k s = 0):1 ≤ k ∧ k ≤ 4:=by
 by_cases c:k = 1 ∨ k = 2 ∨ k = 3 ∨ k = 4
 ·omega
 ·unfold idErr at h
  rw [if_neg (fun e => c (Or.inl e)),if_neg (fun e => c (Or.inr (Or.inl e))),if_neg (fun e => c (Or.inr (Or.inr (Or.inl e)))),if_neg (fun e => c (Or.inr (Or.inr (Or.inr e))))] at h
  cases h
theorem join_all {ts:List TchD} (ht:∀ t ∈ ts,∀ x ∈ t.ids,idErr x.kind x.text = 0) (hl:ts.length ≤ 2000):∀ t ∈ ts,∀ x ∈ t.ids,joinsD kindsB 2000 [] ts x = true:=by
 intro t htm x hx
 have hk:=idErr_kind (ht t htm x hx)
 unfold joinsD
 have h1:hasId [] x = false:=rfl
 have h2:kindsB.contains x.kind = true:=by
  have:x.kind = 1 ∨ x.kind = 2 ∨ x.kind = 3 ∨ x.kind = 4:=by omega
  rcases this with e | e | e | e <;> rw [e] <;> decide
 have h3:(manyId ts x:Int) ≤ 2000:=by
  have:manyId ts x ≤ ts.length:=List.length_filter_le _ _
  omega
 rw [h1,h2,decide_eq_true h3]
 rfl
theorem nodup_leC:∀ (l m:List IdD),l.Nodup → (∀ x ∈ l,x ∈ m) → l.length ≤ m.length
 | [],m,_,_ => Nat.zero_le _
 | x :: l,m,hn,hs => by
  obtain ⟨a,b,rfl⟩:=List.append_of_mem (hs x List.mem_cons_self)
  have h2:=nodup_leC l (a ++ b) (List.nodup_cons.1 hn).2 fun y hy => by
   have hne:y ≠ x:=fun e => (List.nodup_cons.1 hn).1 (e ▸ hy)
   have:=hs y (List.mem_cons_of_mem _ hy)
   rcases List.mem_append.1 this with h | h
   ·exact List.mem_append_left _ h
   ·rcases List.mem_cons.1 h with h | h
    ·exact absurd h hne
    ·exact List.mem_append_right _ h
  rw [List.length_cons,List.length_append,List.length_cons]
  rw [List.length_append] at h2
  omega
theorem idsOk_lenC {l out:List IdD} (h:IdsOk l out):out.length ≤ l.length :=
 nodup_leC out l (List.Pairwise.imp (fun {a b} h e => by
  subst e
  have:=idCmp_zero.2 (rfl:a = a)
  omega) h.1) (fun x hx => (h.2 x).1 hx)
theorem ids_cap {J:IdD → Bool} {ts:List TchD} {rep:Nat → Nat} {ps:List PerD} (hq:PersQ J ts rep ps) (hil:∀ t ∈ ts,t.ids.length ≤ 10) (hl:ts.length ≤ 10) {p:PerD} (hp:p ∈ ps):p.ids.length ≤ 100:=by
 obtain ⟨k,hk,rfl⟩:=List.getElem_of_mem hp
 have hkr:k < (rts rep ts.length).length:=by rw [← hq.len];exact hk
 have h1:=idsOk_lenC (hq.ids k hkr hk)
 have h2:=flatMap_le (m:=10) (fun q => (tAt ts q).ids) (cls rep ts.length (rts rep ts.length)[k]) (fun q hq2 => by
  rw [tAt_lt (in_cls.1 hq2).1]
  exact hil _ (List.getElem_mem _))
 have h3:(cls rep ts.length (rts rep ts.length)[k]).length ≤ ts.length:=by
  unfold cls
  refine Nat.le_trans (List.length_filter_le _ _) ?_
  rw [List.length_range]
  exact Nat.le_refl _
 have h4:(cls rep ts.length (rts rep ts.length)[k]).length * 10 ≤ 10 * 10:=Nat.mul_le_mul_right _ (by omega)
 omega
theorem ids_val {J:IdD → Bool} {ts:List TchD} {rep:Nat → Nat} {ps:List PerD} (hq:PersQ J ts rep ps) (hv:∀ t ∈ ts,∀ x ∈ t.ids,idErr x.kind x.text = 0) {p:PerD} (hp:p ∈ ps):∀ x ∈ p.ids,idErr x.kind x.text = 0:=by
 intro x hx
 obtain ⟨k,hk,rfl⟩:=List.getElem_of_mem hp
 have hkr:k < (rts rep ts.length).length:=by rw [← hq.len];exact hk
 obtain ⟨q,hq2,hyq⟩:=List.mem_flatMap.1 (((hq.ids k hkr hk).2 x).1 hx)
 rw [tAt_lt (in_cls.1 hq2).1] at hyq
 exact hv _ (List.getElem_mem _) x hyq
theorem cnt_le {J:IdD → Bool} {ts:List TchD} {rep:Nat → Nat} {ps:List PerD} (hq:PersQ J ts rep ps):ps.length ≤ ts.length:=by
 rw [hq.len]
 unfold rts
 refine Nat.le_trans (List.length_filter_le _ _) ?_
 rw [List.length_range]
 exact Nat.le_refl _
theorem cnt_pos {J:IdD → Bool} {ts:List TchD} {rr:List Nat} {ps:List PerD} (hu:Uf (Share J ts) rr) (hq:PersQ J ts (repN rr) ps) (h:0 < ts.length):0 < ps.length:=by
 have hm:0 ∈ rts (repN rr) ts.length:=mem_rts.2 ⟨h,by have:=repN_le rr 0;omega⟩
 rw [hq.len]
 exact List.length_pos_of_mem hm
theorem crowd_q {ts:List TchD} {k:Nat} {r0 rr:List Nat} {pb pa:List PerD} (hR:∀ t ∈ ts,RightT t) (hl:ts.length ≤ 10) (h0:Uf (Share (joinsD kindsB 2000 [] (ts.take k)) (ts.take k)) r0) (hu:Uf (Share (joinsD kindsB 2000 [] ts) ts) rr) (hq0:PersQ (joinsD kindsB 2000 [] (ts.take k)) (ts.take k) (repN r0) pb) (hq:PersQ (joinsD kindsB 2000 [] ts) ts (repN rr) pa):CrowdQ pb pa:=by
 have hv:∀ t ∈ ts,∀ x ∈ t.ids,idErr x.kind x.text = 0:=fun t ht => (hR t ht).idE
 have hsub:∀ t ∈ ts.take k,t ∈ ts:=fun t ht => List.mem_of_mem_take ht
 have hlk:(ts.take k).length ≤ 10:=by rw [List.length_take];omega
 have c1:=cnt_le hq
 have c2:=cnt_le hq0
 exact ⟨fun b hb a ha x hx1 hx2 => top_sub (join_all hv (by omega)) h0 hu hq0 hq hb ha hx1 hx2,fun a ha => ids_val hq hv ha,fun a ha => ids_cap hq (fun t ht => (hR t ht).len.2) hl ha,fun b hb => ids_cap hq0 (fun t ht => (hR t (hsub t ht)).len.2) hlk hb,by omega,by omega⟩
theorem newH_monoC {n m:Nat} {w w':World} (h:m ≤ n) (hb:Below w.heap.size w w'):(newH n w).Le (newH m w'):=fun b o e => by
 unfold newH at e ⊢
 by_cases g:b < n
 ·rw [if_pos g] at e;cases e
 ·rw [if_neg g] at e
  rw [if_neg (by omega)]
  exact (hb.block b (lt_of_heap e)).trans e
theorem Lw.fixC {w W W':World} {bs K:Nat} {H:Frz} (h:Lw w bs K H W) (hb:Below W.heap.size W W'):Lw w bs K (H.all W' W.heap.size) W' ∧ H.Le (H.all W' W.heap.size):=by
 have h2:=h.call hb
 refine ⟨⟨h2.st,h2.bel,h2.le,Frz.In.all h2.fin _,?_⟩,Frz.le_all h.fin (Nat.le_refl _)⟩
 rw [Frz.all_lt h.lt]
 exact h.apart
def CrR (m:Nat) (ts:List TchD) (x:Value) (W:World):Prop:=∃ (Ab:Option Addr) (cb:Nat) (ps:List PerD) (r0:List Nat),x = .slice Ab ps.length cb ∧ Uf (Share (joinsD kindsB 2000 [] ts) ts) r0 ∧ PersQ (joinsD kindsB 2000 [] ts) ts (repN r0) ps ∧ PerIn (newH m W) Ab ps
theorem CrR.below {m:Nat} {ts:List TchD} {x:Value} {W W':World} (h:CrR m ts x W) (hb:Below W.heap.size W W'):CrR m ts x W':=by
 obtain ⟨Ab,cb,ps,r0,h1,h2,h3,h4⟩:=h
 exact ⟨Ab,cb,ps,r0,h1,h2,h3,h4.le (newH_monoC (Nat.le_refl _) hb)⟩
def φCd (m k:Nat) (ts:List TchD) (A:Option Addr) (n cap:Nat) (i:Nat) (x:Value) (W:World):Prop :=
 match i with
 | 0 => ∃ g,x = .agg #[.slice (some ⟨g,0,none⟩) 4 4,.int .i64 2000,.slice none 0 0,.slice none 0 0] ∧ m ≤ g ∧ W.heap[g]? = some (.cells #[.int .i64 1,.int .i64 2,.int .i64 3,.int .i64 4] 3 (0,0))
 | 1 => x = .slice A n cap
 | 2 => x = .slice A n cap
 | 3 => x = .int .i64 (n:Int)
 | 4 => x = .int .i64 (k:Int)
 | 5 => x = .slice A k cap
 | 6 => ∃ y,x = .tuple #[y,.int .i64 0] ∧ CrR m ts y W
 | 7 => ∃ y,x = .tuple #[y,.int .i64 0] ∧ CrR m ts y W
 | 8 => CrR m ts x W
 | 9 => x = .int .i64 0
 | 10 => CrR m ts x W
 | _ => True
theorem φCd_mono {m k:Nat} {ts:List TchD} {A:Option Addr} {n cap:Nat} (i:Nat) (x:Value) (W W':World) (_:i < 11) (he:Below W.heap.size W W') (h:φCd m k ts A n cap i x W):φCd m k ts A n cap i x W':=by
 match i,h with
 | 0,h =>
  obtain ⟨g,h1,h2,h3⟩:=h
  exact ⟨g,h1,h2,(he.block g (lt_of_heap h3)).trans h3⟩
 | 1,h => exact h
 | 2,h => exact h
 | 3,h => exact h
 | 4,h => exact h
 | 5,h => exact h
 | 6,h =>
  obtain ⟨y,h1,h2⟩:=h
  exact ⟨y,h1,h2.below he⟩
 | 7,h =>
  obtain ⟨y,h1,h2⟩:=h
  exact ⟨y,h1,h2.below he⟩
 | 8,h => exact CrR.below h he
 | 9,h => exact h
 | 10,h => exact CrR.below h he
 | i + 11,h => trivial
theorem slotC_of {a:Act} {s:Nat} {v:Value} (h:a.tmps.getD s undef = v):a.tmps[s]?.getD undef = v:=by rw [← Array.getD_eq_getD_getElem?];exact h
theorem openPersons (H:Frz) (hU:UtfIn H) (hM:MLen H) (A:Option Addr) (cap:Nat) (ts:List TchD) (hrow:Rw H A 5 fTch ts) (hinn:∀ t ∈ ts,TcIn H t) (hright:RightTs ts) (hlen:ts.length ≤ 100) (m g:Nat) (W:World) (hH:H.In W) (hm:m ≤ W.heap.size) (hg:W.heap[g]? = some (.cells #[.int .i64 1,.int .i64 2,.int .i64 3,.int .i64 4] 3 (0,0))) :
  Calls Tryz.prog 14 #[.agg #[.slice (some ⟨g,0,none⟩) 4 4,.int .i64 2000,.slice none 0 0,.slice none 0 0],.slice A ts.length cap] W fun e w' => (∃ y,e = .returned (.tuple #[y,.int .i64 0]) ∧ CrR m ts y w') ∧ Below W.heap.size W w':=by
 have hle:H.Le (wholeH W):=fun b o h => hH b o h
 have hk:Rw (wholeH W) (some ⟨g,0,none⟩) 1 fI kindsB:=Rw_blk (T:=3) (ds:=kindsB) hg
 have hT:Told (wholeH W) A (openR g) ts:=⟨hrow.le hle,fun t ht => (hinn t ht).le hle,⟨hk,Rw.nil,Rw.nil,fun x hx => (by cases hx)⟩,⟨(by show 4 ≤ 1000000;omega),(by show 0 ≤ 1000000;omega),fun x hx => (by cases hx),(by show 0 ≤ 1000000;omega),fun x hx => (by cases hx)⟩,open_rul g,hright,hlen⟩
 refine (persons_toldN (wholeH W) (hU.le hle) (hM.le hle) A cap (openR g) ts hT W (wholeH_in W)).mono ?_
 rintro e w' ⟨hb,A',c,ps,rr,rfl,h1,-,h2,-,h3⟩
 exact ⟨⟨_,rfl,A',c,ps,rr,rfl,h1,h2,h3.le (by
  intro b o e
  unfold newH at e ⊢
  by_cases q:b < W.heap.size
  ·rw [if_pos q] at e;cases e
  ·rw [if_neg q] at e
   rw [if_neg (by omega)]
   exact e)⟩,hb⟩
set_option maxHeartbeats 8000000 in
set_option maxRecDepth 100000 in
theorem Lw.crowd {w W:World} {bs:Nat} {H:Frz} (h:Lw w bs 0 H W) (hP:PoolIn H) (hN:NamesIn H) (hU:UtfIn H) (hM:MLen H) :
  Calls Tryz.prog 4 #[.pointer (some ⟨bs,0,none⟩)] W (CrowdPost w bs 0 H):=by
 have HL0:=Lib.hid h
 have HP:=Lib.hid hP
 have HN:=Lib.hid hN
 have HU:=Lib.hid hU
 have HM:=Lib.hid hM
 clear h hP hN hU hM
 go_enter Tryz.func4,Tryz.ntmps4
 go_wp2_with fail
 refine (HL0.out.range 2 9 (by omega) (by omega) (by omega) (by omega)).mono ?_
 rintro e W2 ⟨n,rfl,n0,n1,Lq,-,-⟩
 have HL2:=Lib.hid Lq
 clear Lq HL0
 obtain ⟨m,rfl⟩:=Int.eq_ofNat_of_zero_le (show (0:Int) ≤ n by omega)
 go_wp2_with fail
 refine (HL2.out.rightTouches (by omega) HP.out HN.out HU.out HM.out m (by omega)).mono ?_
 rintro e W3 ⟨v,ts,H2,rfl,le2,-,C3,hok,hlen⟩
 obtain ⟨A,cap,H3,rfl,hcap,le3,L3,R3,-⟩:=C3.1.frozen2
 have HL3:=Lib.hid (L3.more (K':=6000) (by omega))
 have HLE:=Lib.hid (le2.trans le3)
 have HROW:=Lib.hid R3
 have HINN:Hid (∀ t ∈ ts,TcIn H3 t):=fun t ht => (hok.inn t ht).le le3
 have HRT:=Lib.hid hok.right
 have hln:ts.length ≤ 9:=by omega
 have HR9:=Lib.hid (tchs_right (hok.right.all (by omega))).2.1
 clear C3 L3 R3 le2 le3 hok hlen HL2
 have HU3:=Lib.hid (HU.out.le HLE.out)
 have HM3:=Lib.hid (HM.out.le HLE.out)
 clear HU HM HP HN
 by_cases hz:ts.length = 0
 ·have hz1:((ts.length:Int) == 0) = true:=by rw [beq_iff_eq];omega
  have HF:Hid (CrowdPost w bs 0 H (.returned (.tuple #[.slice none 0 0,.slice none 0 0,.slice none 0 0,.bool false])) W3) :=
   ⟨H3,none,0,0,none,0,[],none,0,[],false,rfl,HL3.out,HLE.out,fun _ => rfl,⟨Rw.nil,fun p hp => (by cases hp)⟩,⟨Rw.nil,fun p hp => (by cases hp)⟩,⟨fun b hb => (by cases hb),fun b hb => (by cases hb),fun b hb => (by cases hb),fun b hb => (by cases hb),by simp,by simp⟩⟩
  go_wp2_with fail
  exact bodyPost_ret (by kernel_rfl) rfl HF.out
 ·have hz1:((ts.length:Int) == 0) = false:=by rw [beq_eq_false_iff_ne];omega
  obtain ⟨k,hk⟩:∃ k,k + 1 = ts.length:=⟨ts.length - 1,by omega⟩
  have hkl:(ts.take k).length = k:=by rw [List.length_take];omega
  have HKL:=Lib.hid hkl
  have hsub:IntKind.i64.wrap ((ts.length:Int) - 1) = (k:Int):=by rw [IntWalk.i64_in _ (by omega)];omega
  have HK:=Lib.hid hk
  have hk0:(0:Int) ≤ (k:Int):=by omega
  have hk1:(k:Int) ≤ cap:=by omega
  have HIN3:=Lib.hid HL3.out.fin
  clear hk hkl
  obtain ⟨b0,off0,hA,-,-⟩:=HROW.out.at_ HIN3.out (i:=0) (by omega) (by omega)
  subst hA
  have HOP:Hid (∀ g W,Below W3.heap.size W3 W → W.heap[g]? = some (.cells #[.int .i64 1,.int .i64 2,.int .i64 3,.int .i64 4] 3 (0,0)) → Calls Tryz.prog 14 #[.agg #[.slice (some ⟨g,0,none⟩) 4 4,.int .i64 2000,.slice none 0 0,.slice none 0 0],.slice (some ⟨b0,off0,none⟩) k cap] W fun e w' => (∃ y,e = .returned (.tuple #[y,.int .i64 0]) ∧ CrR W3.heap.size (ts.take k) y w') ∧ Below W.heap.size W w'):=fun g W hW hg => by
   have hrow:Rw H3 (some ⟨b0,off0,none⟩) 5 fTch (ts.take k):=HROW.out.take k
   have:=openPersons H3 HU3.out HM3.out (some ⟨b0,off0,none⟩) cap (ts.take k) hrow (fun t ht => HINN.out t (List.mem_of_mem_take ht)) (HRT.out.pre k) (by rw [HKL.out];have:=HK.out;omega) W3.heap.size g W (HIN3.out.below hW) hW.size hg
   rw [HKL.out] at this
   exact this
  have HOP2:Hid (∀ g W,Below W3.heap.size W3 W → W.heap[g]? = some (.cells #[.int .i64 1,.int .i64 2,.int .i64 3,.int .i64 4] 3 (0,0)) → Calls Tryz.prog 14 #[.agg #[.slice (some ⟨g,0,none⟩) 4 4,.int .i64 2000,.slice none 0 0,.slice none 0 0],.slice (some ⟨b0,off0,none⟩) ts.length cap] W fun e w' => (∃ y,e = .returned (.tuple #[y,.int .i64 0]) ∧ CrR W3.heap.size ts y w') ∧ Below W.heap.size W w'):=fun g W hW hg =>
   openPersons H3 HU3.out HM3.out (some ⟨b0,off0,none⟩) cap ts HROW.out HINN.out HRT.out (by omega) W3.heap.size g W (HIN3.out.below hW) hW.size hg
  go_upto_region 4 with (fail)
  refine wp_region_conc 11 48 (φCd W3.heap.size k (ts.take k) (some ⟨b0,off0,none⟩) ts.length cap) (fun n W' => Below W3.heap.size W3 W') (fun a b => Below a.heap.size a b) (by kernel_rfl) (by kernel_rfl) (by rfl) ((Below.refl _ _).drew) φCd_mono ?_ ?_
  ·intro n o hn ho a W2 kk hkk hJ hkn
   have hcs:n = 0 ∨ n = 1 ∨ n = 2 ∨ n = 3 ∨ n = 4 ∨ n = 5 ∨ n = 6 ∨ n = 7 ∨ n = 8 ∨ n = 9 ∨ n = 10:=by omega
   rcases hcs with rfl | rfl | rfl | rfl | rfl | rfl | rfl | rfl | rfl | rfl | rfl
   ·obtain rfl:=Option.some.inj ho
    clear hkn ho
    simp only [OpV,execOp]
    simp [go_sem]
    exact (open_any W2).mono fun e w'' ⟨hb,g,he,hg,hs⟩ => ⟨_,he,⟨g,rfl,Nat.le_trans hJ.size hg,hs⟩,hJ.trans (hb.mono hJ.size),hb⟩
   ·obtain rfl:=Option.some.inj ho
    have h1:=slotC_of (hkn 6 (by decide):a.tmps.getD 6 undef = .slice (some ⟨b0,off0,none⟩) ts.length cap)
    clear hkn ho
    simp only [OpV,execOp]
    simp [go_sem,h1]
    exact ⟨rfl,hJ,Below.refl _ _⟩
   ·obtain rfl:=Option.some.inj ho
    have h1:=slotC_of (hkn 6 (by decide):a.tmps.getD 6 undef = .slice (some ⟨b0,off0,none⟩) ts.length cap)
    clear hkn ho
    simp only [OpV,execOp]
    simp [go_sem,h1]
    exact ⟨rfl,hJ,Below.refl _ _⟩
   ·obtain rfl:=Option.some.inj ho
    have h1:=slotC_of (hkn 21 (by decide):a.tmps.getD 21 undef = .slice (some ⟨b0,off0,none⟩) ts.length cap)
    clear hkn ho
    simp only [OpV,execOp]
    simp [go_sem,h1]
    exact ⟨rfl,hJ,Below.refl _ _⟩
   ·obtain rfl:=Option.some.inj ho
    have h1:=slotC_of (hkn 22 (by decide):a.tmps.getD 22 undef = .int .i64 (ts.length:Int))
    clear hkn ho
    simp only [OpV,execOp]
    simp [go_sem,h1,hsub]
    exact ⟨rfl,hJ,Below.refl _ _⟩
   ·obtain rfl:=Option.some.inj ho
    have h1:=slotC_of (hkn 20 (by decide):a.tmps.getD 20 undef = .slice (some ⟨b0,off0,none⟩) ts.length cap)
    have h2:=slotC_of (hkn 23 (by decide):a.tmps.getD 23 undef = .int .i64 (k:Int))
    clear hkn ho
    simp only [OpV,execOp]
    simp [go_sem,h1,h2,hk0,hk1]
    exact ⟨rfl,hJ,Below.refl _ _⟩
   ·obtain rfl:=Option.some.inj ho
    obtain ⟨g,h1,hg1,hg2⟩:=(hkn 19 (by decide):∃ g,a.tmps.getD 19 undef = .agg #[.slice (some ⟨g,0,none⟩) 4 4,.int .i64 2000,.slice none 0 0,.slice none 0 0] ∧ W3.heap.size ≤ g ∧ W2.heap[g]? = some (.cells #[.int .i64 1,.int .i64 2,.int .i64 3,.int .i64 4] 3 (0,0)))
    have h1:=slotC_of h1
    have h2:=slotC_of (hkn 24 (by decide):a.tmps.getD 24 undef = .slice (some ⟨b0,off0,none⟩) k cap)
    clear hkn ho
    simp only [OpV,execOp]
    simp [go_sem,h1,h2]
    exact (HOP.out g W2 hJ hg2).mono fun e w'' ⟨⟨y,he,hc⟩,hb⟩ => ⟨_,he,⟨y,rfl,hc⟩,hJ.trans (hb.mono hJ.size),hb⟩
   ·obtain rfl:=Option.some.inj ho
    obtain ⟨y,h1,hc⟩:=(hkn 25 (by decide):∃ y,a.tmps.getD 25 undef = .tuple #[y,.int .i64 0] ∧ CrR W3.heap.size (ts.take k) y W2)
    have h1:=slotC_of h1
    clear hkn ho
    simp only [OpV,execOp]
    simp [go_sem,h1]
    exact ⟨⟨y,rfl,hc⟩,hJ,Below.refl _ _⟩
   ·obtain rfl:=Option.some.inj ho
    obtain ⟨y,h1,hc⟩:=(hkn 18 (by decide):∃ y,a.tmps.getD 18 undef = .tuple #[y,.int .i64 0] ∧ CrR W3.heap.size (ts.take k) y W2)
    have h1:=slotC_of h1
    clear hkn ho
    simp only [OpV,execOp]
    simp [go_sem,h1]
    exact ⟨hc,hJ,Below.refl _ _⟩
   ·obtain rfl:=Option.some.inj ho
    obtain ⟨y,h1,hc⟩:=(hkn 18 (by decide):∃ y,a.tmps.getD 18 undef = .tuple #[y,.int .i64 0] ∧ CrR W3.heap.size (ts.take k) y W2)
    have h1:=slotC_of h1
    clear hkn ho
    simp only [OpV,execOp]
    simp [go_sem,h1]
    exact ⟨rfl,hJ,Below.refl _ _⟩
   ·obtain rfl:=Option.some.inj ho
    have hc:CrR W3.heap.size (ts.take k) (a.tmps.getD 26 undef) W2:=hkn 26 (by decide)
    clear hkn ho
    exact ⟨hc,hJ,Below.refl _ _⟩
  ·intro xv Wv hJv hφ
   have hc:CrR W3.heap.size (ts.take k) (xv 10) Wv:=hφ 10 (by omega)
   have e9:xv 9 = .int .i64 0:=hφ 9 (by omega)
   simp only [List.drop_succ_cons,List.drop_zero,List.take_succ_cons,List.take_zero,putAll,Nat.reduceAdd,e9]
   clear hφ e9 HOP hsub hk0 hk1
   generalize xv 10 = z10 at *
   generalize xv 0 = z0
   generalize xv 1 = z1
   generalize xv 2 = z2
   generalize xv 3 = z3
   generalize xv 4 = z4
   generalize xv 5 = z5
   generalize xv 6 = z6
   generalize xv 7 = z7
   generalize xv 8 = z8
   have HC:=Lib.hid hc
   have HJ:=Lib.hid hJv
   clear hc hJv
   go_wp2_with fail
   refine (open_any Wv).mono ?_
   rintro e W5 ⟨hb5,g,rfl,hg,hs⟩
   have HB5:=Lib.hid (HJ.out.trans (hb5.mono HJ.out.size))
   have HP2:=Lib.hid (HOP2.out g W5 HB5.out hs)
   have HC5:=Lib.hid (HC.out.below hb5)
   clear hb5 hg hs HOP2 HC HJ
   go_wp2_with fail
   refine HP2.out.mono ?_
   rintro e W6 ⟨⟨y,rfl,hc6⟩,hb6⟩
   have HB6:=Lib.hid (HB5.out.trans (hb6.mono HB5.out.size))
   obtain ⟨Ab,cb,pb,r0,rfl,hu0,hq0,hp0⟩:=HC5.out.below hb6
   obtain ⟨Aa,ca,pa,rr,rfl,hu1,hq1,hp1⟩:=hc6
   obtain ⟨hL,hleA⟩:=HL3.out.fixC HB6.out
   have hpos:=cnt_pos hu1 hq1 (by omega)
   have HF:Hid (CrowdPost w bs 0 H (.returned (.tuple #[.slice (some ⟨b0,off0,none⟩) ts.length cap,.slice Ab pb.length cb,.slice Aa pa.length ca,.bool true])) W6) :=
    ⟨_,_,_,_,Ab,cb,pb,Aa,ca,pa,true,rfl,hL,HLE.out.trans hleA,fun h => (by cases h),hp0.le newH_all,hp1.le newH_all,crowd_q HR9.out (by omega) hu0 hu1 hq0 hq1⟩
   have hgt:decide ((0:Int) < (pa.length:Int)) = true:=by simp;omega
   clear hu0 hq0 hp0 hu1 hq1 hp1 hL hleA HP2 HC5 hb6 HB5
   go_wp2_with fail
   exact bodyPost_ret (by kernel_rfl) rfl HF.out
open Go.RowKit
theorem setCells_at (b:Nat) (T:TypeId) (f:Nat × Nat):∀ (vs:List Value) (o:Nat) (w:World) (c:Array Value),w.heap[b]? = some (.cells c T f) → o + vs.length ≤ c.size →
  ∃ c':Array Value,(w.setCells b o vs).heap[b]? = some (.cells c' T f) ∧ c'.size = c.size ∧ ∀ j,c'[j]? = if o ≤ j ∧ j < o + vs.length then vs[j - o]? else c[j]?
 | [],o,w,c,h,_ => ⟨c,h,rfl,fun j => by rw [if_neg (by rintro ⟨h1,h2⟩;have:([]:List Value).length = 0:=rfl;omega)]⟩
 | v :: vs,o,w,c,h,hl => by
  have h1:(w.setCell ⟨b,o,none⟩ v).heap[b]? = some (.cells (c.setIfInBounds o v) T f):=by
   simp [World.setCell,Array.getElem?_modify,h]
  have hl':o + 1 + vs.length ≤ c.size:=by simp at hl;omega
  obtain ⟨c',h2,h3,h4⟩:=setCells_at b T f vs (o + 1) _ _ h1 (by simpa using hl')
  refine ⟨c',h2,by rw [h3];simp,fun j => ?_⟩
  rw [h4 j]
  by_cases hj:o = j
  ·subst hj
   rw [if_neg (by omega),if_pos (by simp),Array.getElem?_setIfInBounds]
   simp
   omega
  ·by_cases hj2:o + 1 ≤ j ∧ j < o + 1 + vs.length
   ·rw [if_pos hj2,if_pos (by simp;omega),show j - o = (j - (o + 1)) + 1 from by omega]
    simp
   ·rw [if_neg hj2,if_neg (by simp;omega),Array.getElem?_setIfInBounds,if_neg hj]
theorem setCells_whole {w:World} {b:Nat} {T:TypeId} {f:Nat × Nat} {c cs:Array Value} (h:w.heap[b]? = some (.cells c T f)) (hs:cs.size = c.size):(w.setCells b 0 cs.toList).heap[b]? = some (.cells cs T f):=by
 obtain ⟨c',h1,h2,h3⟩:=setCells_at b T f cs.toList 0 w c h (by simp [hs])
 rw [h1]
 congr 2
 apply Array.ext
 ·rw [h2,hs]
 ·intro j hj1 hj2
  have:=h3 j
  rw [if_pos (by simp;omega)] at this
  simp at this
  rw [Array.getElem?_eq_getElem hj1,Array.getElem?_eq_getElem hj2] at this
  exact Option.some.inj this
theorem setCells_grown (b:Nat):∀ (vs:List Value) (o:Nat) (w:World),w.grownBy (w.setCells b o vs) (some b) ∧ (w.setCells b o vs).heap.size = w.heap.size
 | [],o,w => ⟨World.grownBy.refl _ _,rfl⟩
 | v :: vs,o,w => by
  obtain ⟨h1,h2⟩:=setCells_grown b vs (o + 1) (w.setCell ⟨b,o,none⟩ v)
  have h3:(w.setCell ⟨b,o,none⟩ v).heap.size = w.heap.size:=by simp [World.setCell]
  refine ⟨⟨h1.os,h1.tape,h1.output,Nat.le_trans (Nat.le_of_eq h3.symm) h1.size,fun k hk hne => ?_⟩,h2.trans h3⟩
  exact (h1.block k (by omega) hne).trans (Below.heap_setCell w _ _ k (fun e => hne (by rw [e])))
theorem OpV.store_whole {P:Program} {o:Oper} {a:Act} {w:World} {R:Value → World → Prop} (ty:TypeId) (x y:Operand) (ho:o.op = .store ty x y) (b:Nat) (hx:a.eval x = .pointer (some ⟨b,0,none⟩)) (cs:Array Value) (hy:a.eval y = .agg cs)
  {c:Array Value} {T:TypeId} (hb:w.heap[b]? = some (.cells c T (0,0))) (hs:cs.size = c.size) (hi:(P.info? ty).map (·.size) = some cs.size) (h1:cs.all (·.oneCell') = true)
  (h:∀ w',w.grownBy w' (some b) → w'.heap.size = w.heap.size → w'.heap[b]? = some (.cells cs T (0,0)) → R undef w'):OpV P o a.eval w R:=by
 have ht:w.there b 0 cs.size:=fun j hj => by
  constructor
  ·have:w.cell? ⟨b,0 + j,none⟩ = c[j]?:=by simp [World.cell?,hb]
   rw [this,Array.getElem?_eq_getElem (by omega)]
   rfl
  ·simp [World.frozen?,hb]
 unfold OpV execOp
 simp only [ho,hx,hy,Instr.storeAt,Instr.sureAddr,Sem.run_bind,Sem.run_pure,Result.andThen_ok,run_storeVar_mid w b 0 ty cs ht hi h1]
 obtain ⟨g1,g2⟩:=setCells_grown b cs.toList 0 w
 exact h _ g1 g2 (setCells_whole hb hs)
def isT (T:TypeId) (o:Obj):Prop:=∃ cs fr,o = .cells cs T fr
def ET (T:TypeId) (w w':World):Prop:=w.heap.size ≤ w'.heap.size ∧ (∀ (p:Nat) (o:Obj),w.heap[p]? = some o → ¬ isT T o → w'.heap[p]? = some o) ∧ (∀ (p:Nat) (cs:Array Value),w.heap[p]? = some (.cells cs T (0,0)) → ∃ cs':Array Value,w'.heap[p]? = some (.cells cs' T (0,0)) ∧ cs'.size = cs.size)
section
variable {T:TypeId} {w w':World}
theorem ET.of (h:Below w.heap.size w w'):ET T w w':=⟨h.size,fun p o e _ => (h.block p (lt_of_heap e)).trans e,fun p cs e => ⟨cs,(h.block p (lt_of_heap e)).trans e,rfl⟩⟩
theorem ET.store {b:Nat} {c cs:Array Value} (hb:w.heap[b]? = some (.cells c T (0,0))) (hs:cs.size = c.size) (hg:w.grownBy w' (some b)) (hn:w'.heap[b]? = some (.cells cs T (0,0))):ET T w w':=by
 refine ⟨hg.size,fun p o e hno => ?_,fun p c2 e => ?_⟩
 ·by_cases hp:p = b
  ·subst hp
   exact absurd ⟨c,(0,0),Option.some.inj (e.symm.trans hb)⟩ hno
  ·exact (hg.block p (lt_of_heap e) (fun c => hp (by injection c))).trans e
 ·by_cases hp:p = b
  ·subst hp
   have:=Option.some.inj (e.symm.trans hb)
   injection this with h1
   exact ⟨cs,hn,by rw [hs,h1]⟩
  ·exact ⟨c2,(hg.block p (lt_of_heap e) (fun c => hp (by injection c))).trans e,rfl⟩
theorem ET.row {D:Type} {B U k:Nat} {f:D → Nat → Value} {v:Value} {ds:List D} (h:ET T w w') (hU:U ≠ T) (ho:Orow w B U k f v ds):Orow w' B U k f v ds:=by
 refine ⟨ho.1,?_⟩
 rcases ho.2 with h1 | ⟨g,cap,cur,hv,hg,hh,r⟩
 ·exact Or.inl h1
 ·refine Or.inr ⟨g,cap,cur,hv,hg,h.2.1 g _ hh ?_,r⟩
  rintro ⟨cs,fr,e⟩
  injection e with _ e2
  exact hU e2
def NT (T:TypeId) (H:Frz):Prop:=∀ p o,H p = some o → ¬ isT T o
theorem ET.inn {H:Frz} (h:ET T w w') (hn:NT T H) (hi:H.In w):H.In w':=fun b o e => h.2.1 b o (hi b o e) (hn b o e)
theorem NT.empty (T:TypeId):NT T Frz.empty:=fun _ _ h => by cases h
theorem NT.add {H:Frz} (h:NT T H) {n:Nat} {o:Obj} (ho:¬ isT T o):NT T (H.add n o):=fun p o' e => by
 unfold Frz.add at e
 split at e
 ·injection e with e;subst e;exact ho
 ·exact h p o' e
end
theorem not_isT {T U:TypeId} {cs:Array Value} {fr:Nat × Nat} (h:U ≠ T):¬ isT T (.cells cs U fr):=by
 rintro ⟨cs',fr',e⟩
 injection e with _ e2
 exact h e2
theorem Orow.alone {D:Type} {w:World} {B U k:Nat} {f:D → Nat → Value} {v:Value} {ds:List D} (h:Orow w B U k f v ds) (T:TypeId) (hU:U ≠ T) :
  ∃ (A:Option Addr) (cap:Nat) (H':Frz),v = .slice A ds.length cap ∧ ds.length ≤ cap ∧ H'.In w ∧ Rw H' A k f ds ∧ NT T H' ∧ (∀ b,b < B → H' b = none):=by
 rcases h.2 with ⟨rfl,hn⟩ | ⟨g,cap,cur,rfl,hB,hh,hle,hm,hs,ht⟩
 ·have:ds = []:=List.eq_nil_of_length_eq_zero hn
  subst this
  exact ⟨none,0,Frz.empty,rfl,Nat.le_refl _,Frz.In.empty _,Rw.nil,NT.empty T,fun _ _ => rfl⟩
 ·refine ⟨some ⟨g,0,none⟩,cap,Frz.empty.add g (.cells cur U (0,0)),rfl,hle,(Frz.In.empty _).add hh,?_,NT.add (NT.empty T) (not_isT hU),fun b hb => by rw [Frz.add_other (by omega)];rfl⟩
  intro i hi
  refine ⟨g,0,rfl,fun j hj => ?_⟩
  have hx:=cellsOf_get k f ds i j hi hj
  rw [← ht] at hx
  have hlt:i * k + j < ds.length * k:=by
   have:(i + 1) * k ≤ ds.length * k:=Nat.mul_le_mul_right _ hi
   rw [Nat.succ_mul] at this;omega
  rw [List.getElem?_take_of_lt hlt] at hx
  unfold Frz.cell?
  rw [show (⟨g,0 + i * k + j,none⟩:Addr).block = g from rfl,Frz.add_at]
  simpa using hx
structure BoxJ (T:TypeId) (ia sa js:Nat) (H:Frz) (W0:World) (G:Array Value → World → Prop) (L:Array Bool) (a:Act) (w:World):Prop where
 inn:H.In w
 bel:Below W0.heap.size W0 w
 st:L.getD js false = true → L.getD ia false = true ∧ ∃ (b:Nat) (cs:Array Value),a.tmps.getD sa undef = .pointer (some ⟨b,0,none⟩) ∧ W0.heap.size ≤ b ∧ w.heap[b]? = some (.cells cs T (0,0)) ∧ G cs w
section
variable {T:TypeId} {ia sa js:Nat} {H:Frz} {W0:World} {G:Array Value → World → Prop} {L:Array Bool} {a:Act} {w w':World}
theorem BoxJ.start (hH:H.In W0) (m:Nat) (a:Act):BoxJ T ia sa js H W0 G (Array.replicate m false) a W0.drew :=
 ⟨hH,(Below.refl _ _).drew,fun h => by rw [getD_replicate_false] at h;cases h⟩
theorem BoxJ.step (h:BoxJ T ia sa js H W0 G L a w) (hG:∀ cs,Below w.heap.size w w' → G cs w → G cs w') (hb:Below w.heap.size w w') {i d:Nat} (hi:i ≠ js) (hi2:i ≠ ia) (hd:d ≠ sa) (v:Value):BoxJ T ia sa js H W0 G (L.setIfInBounds i true) (a.put (some d) v) w':=by
 refine ⟨h.inn.below hb,h.bel.trans (hb.mono h.bel.size),fun hl => ?_⟩
 rw [getD_set_ne false hi] at hl
 obtain ⟨h1,b,cs,h2,h3,h4,h5⟩:=h.st hl
 refine ⟨by rw [getD_set_ne false hi2];exact h1,b,cs,?_,h3,(hb.block b (lt_of_heap h4)).trans h4,hG cs hb h5⟩
 simp only [Act.put,Array.getD_eq_getD_getElem?,Array.getElem?_setIfInBounds]
 rw [if_neg hd,← Array.getD_eq_getD_getElem?]
 exact h2
theorem BoxJ.new (h:BoxJ T ia sa js H W0 G L a w) (hb:Below w.heap.size w w') (hia:L.getD ia true = false) (hne:ia ≠ js) (v:Value):BoxJ T ia sa js H W0 G (L.setIfInBounds ia true) (a.put (some sa) v) w':=by
 refine ⟨h.inn.below hb,h.bel.trans (hb.mono h.bel.size),fun hl => ?_⟩
 rw [getD_set_ne false hne] at hl
 obtain ⟨h1,-⟩:=h.st hl
 simp only [Array.getD_eq_getD_getElem?] at h1 hia
 cases e:L[ia]? with
 | none => rw [e] at h1;cases h1
 | some x => rw [e] at h1 hia;simp at h1 hia;rw [h1] at hia;cases hia
theorem BoxJ.store (h:BoxJ T ia sa js H W0 G L a w) {b:Nat} {cs:Array Value} (hp:a.tmps.getD sa undef = .pointer (some ⟨b,0,none⟩)) (hb0:W0.heap.size ≤ b) (hia:L.getD ia false = true) (hne:js ≠ ia) (hno:H b = none)
  (hg:w.grownBy w' (some b)) (hn:w'.heap[b]? = some (.cells cs T (0,0))) (hG:G cs w') (v:Value):BoxJ T ia sa js H W0 G (L.setIfInBounds js true) (a.put none v) w' :=
 ⟨h.inn.grown hg hno,h.bel.grown hg h.bel.size (fun q hq => by injection hq with hq;omega),fun _ => ⟨by rw [getD_set_ne false hne];exact hia,b,cs,hp,hb0,hn,hG⟩⟩
end
def BoxP (T:TypeId) (S n:Nat) (v:Value) (w:World):Prop:=∃ (b:Nat) (cs:Array Value),v = .pointer (some ⟨b,0,none⟩) ∧ S ≤ b ∧ w.heap[b]? = some (.cells cs T (0,0)) ∧ cs.size = n
theorem BoxP.mono {T:TypeId} {S n:Nat} {v:Value} {w w':World} (e:ET T w w') (h:BoxP T S n v w):BoxP T S n v w':=by
 obtain ⟨b,cs,h1,h2,h3,h4⟩:=h
 obtain ⟨cs',h5,h6⟩:=e.2.2 b cs h3
 exact ⟨b,cs',h1,h2,h5,h6.trans h4⟩
end Go.Proofs.YtcncifmanodabaaGreatDoor
