/- Texts of this claim, put together: Members. -/
import Derived.Test.YtcncifmanodabaaGreatDoorGBC
import Derived.Deep.DeepCutAuto
namespace Go.Proofs.YtcncifmanodabaaGreatDoor
set_option linter.unusedVariables false
open Go.RowKit
structure LS (w:World) (B gr bp n N:Nat) (J:IdD → Bool) (ts:List TchD) (rep:Nat → Nat) (roots:List Nat) (c:Nat) (ms:List MemD) (nos:Nat → List Int) (idss:Nat → List IdD) (ats:Nat → List Int) (vout:Value) (cnt:Nat) (pm:Lit → Option Value) (W:World):Prop where
 st:MS w B ms nos idss ats vout W
 mc:MC J ts rep roots c ms nos idss ats
 mp:Mp Tryz.prog 3 W bp cnt pm
 cl:cnt ≤ N
 pmm:PM roots pm
 row:KBlk W gr 3 1 fI (tab n fun k => ((rep k:Nat):Int)) []
 lt:gr < B ∧ bp < B ∧ gr ≠ bp ∧ w.heap.size ≤ gr ∧ w.heap.size ≤ bp ∧ B ≤ W.heap.size
section
variable {w W W':World} {B gr bp n N:Nat} {J:IdD → Bool} {ts:List TchD} {rep:Nat → Nat} {roots:List Nat} {c:Nat} {ms:List MemD} {nos ats:Nat → List Int} {idss:Nat → List IdD} {vout:Value} {cnt:Nat} {pm:Lit → Option Value}
theorem LS.call (h:LS w B gr bp n N J ts rep roots c ms nos idss ats vout cnt pm W) (hb:Below W.heap.size W W'):LS w B gr bp n N J ts rep roots c ms nos idss ats vout cnt pm W' :=
 ⟨h.st.call hb,h.mc,h.mp.below hb,h.cl,h.pmm,h.row.keep hb,h.lt.1,h.lt.2.1,h.lt.2.2.1,h.lt.2.2.2.1,h.lt.2.2.2.2.1,Nat.le_trans h.lt.2.2.2.2.2 hb.size⟩
theorem LS.cellR (h:LS w B gr bp n N J ts rep roots c ms nos idss ats vout cnt pm W) {i:Nat} (hi:i < n):W.cell? ⟨gr,i,none⟩ = some (.int .i64 ((rep i:Nat):Int)):=by
 have:=h.row.cell1 i (by rw [tab_len];exact hi)
 rw [tab_get] at this
 exact this
theorem LS.new (h:LS w B gr bp n N J ts rep roots c ms nos idss ats vout cnt pm W) (hr:∀ q ∈ roots,q ≤ 1000000) {r0:Nat} (h0:r0 ∉ roots) (hb0:r0 ≤ 1000000) (hcl:cls rep c r0 = []) {W1 W2 W3:World} (hm:Mp Tryz.prog 3 W1 bp (cnt + 1) (mpSet pm (.int .i64 (r0:Int)) (.int .i64 (roots.length:Int)))) (hg1:W.grownBy W1 (some bp))
  (hb2:Below W1.heap.size W1 W2) {d:MemD} (hT:d.vT = .slice none 0 0) (hI:d.vI = .slice none 0 0) (hA:d.vA = .slice none 0 0) (hkey:d.key = keyF J (tAt ts r0).ids) {v':Value} (ho:Orow W3 B 121 5 fMem v' (ms ++ [d])) (hg3:W2.grownBy W3 vout.ownBlock)
  (hat:v'.ownBlock = vout.ownBlock ∨ ∃ g,v'.ownBlock = some g ∧ W2.heap.size ≤ g) :
  LS w B gr bp n (N + 1) J ts rep (roots ++ [r0]) c (ms ++ [d]) (fun k => if k < ms.length then nos k else []) (fun k => if k < ms.length then idss k else []) (fun k => if k < ms.length then ats k else []) v' (cnt + 1) (mpSet pm (.int .i64 (r0:Int)) (.int .i64 (roots.length:Int))) W3:=by
 obtain ⟨l1,l2,l3,l4,l5,l6⟩:=h.lt
 have s1:MS w B ms nos idss ats vout W1:=by
  refine ⟨h.st.fam.far hg1 l2,?_,h.st.ge⟩
  exact ⟨hg1.os.trans h.st.bel.os,hg1.tape.trans h.st.bel.tape,hg1.output.trans h.st.bel.output,Nat.le_trans h.st.bel.size hg1.size,fun q hq => (hg1.block q (Nat.lt_of_lt_of_le hq h.st.bel.size) (fun e => by injection e with e;omega)).trans (h.st.bel.block q hq)⟩
 have s2:=s1.call hb2
 have hvo:∀ g,vout.ownBlock = some g → B ≤ g:=fun g hg => (s2.out.lt hg).1
 have s3b:Below w.heap.size w W3:=⟨hg3.os.trans s2.bel.os,hg3.tape.trans s2.bel.tape,hg3.output.trans s2.bel.output,Nat.le_trans s2.bel.size hg3.size,fun q hq => (hg3.block q (Nat.lt_of_lt_of_le hq s2.bel.size) (fun e => by have:=hvo q e.symm;have:=h.st.ge;omega)).trans (s2.bel.block q hq)⟩
 refine ⟨s2.new hT hI hA ho hg3 hat s3b,h.mc.new hcl hkey,(hm.below hb2).kept hg3 (fun e => by have:=hvo bp e.symm;omega),Nat.succ_le_succ h.cl,h.pmm.add hr h0 hb0,?_,l1,l2,l3,l4,l5,?_⟩
 ·have r1:KBlk W1 gr 3 1 fI (tab n fun k => ((rep k:Nat):Int)) []:=(hg1.block gr h.row.lt (fun e => by injection e with e;exact l3 e)).trans h.row
  have r2:=r1.keep hb2
  exact (hg3.block gr r2.lt (fun e => by have:=hvo gr e.symm;omega)).trans r2
 ·exact Nat.le_trans l6 (Nat.le_trans hg1.size (Nat.le_trans hb2.size hg3.size))
end
def LX (w:World) (B gr bp n N:Nat) (J:IdD → Bool) (ts:List TchD) (rep:Nat → Nat) (roots:List Nat) (c:Nat) (vout:Value) (W:World):Prop :=
 ∃ ms nos idss ats cnt pm,LS w B gr bp n N J ts rep roots c ms nos idss ats vout cnt pm W
theorem infoMem:(Tryz.prog.info? 121).map (fun i => (i.zero,i.size,i.bytes)) = some (some (.agg #[.int .i64 0,.string ⟨#[]⟩,.slice none 0 0,.slice none 0 0,.slice none 0 0]),5,96):=by kernel_rfl
def φM12 (S:Nat) (go k gp b off n cap ik:Nat) (vT vA:Value) (no:Int) (i:Nat) (v:Value) (w:World):Prop :=
 match i with
 | 0 => v = .pointer (some ⟨go,k * 5,none⟩)
 | 1 => v = .pointer (some ⟨go,k * 5,none⟩)
 | 2 => v = .pointer (some ⟨go,k * 5,none⟩)
 | 3 => v = .pointer (some ⟨go,k * 5,none⟩)
 | 4 => v = .pointer (some ⟨go,k * 5,none⟩)
 | 5 => v = .pointer (some ⟨go,k * 5 + 2,none⟩)
 | 6 => v = vT
 | 7 => v = .pointer (some ⟨gp,0,none⟩)
 | 8 => v = .pointer (some ⟨gp,0,none⟩)
 | 9 => v = .pointer (some ⟨gp,4,none⟩)
 | 10 => v = .slice (some ⟨b,off,none⟩) n cap
 | 11 => v = .int .i64 (ik:Nat)
 | 12 => v = .pointer (some ⟨b,off + ik * 5,none⟩)
 | 13 => v = .pointer (some ⟨b,off + ik * 5,none⟩)
 | 14 => v = .int .i64 no
 | 15 => TmpS S v #[.int .i64 no] 3 w
 | 16 => True
 | 17 => v = .pointer (some ⟨go,k * 5,none⟩)
 | 18 => v = .pointer (some ⟨go,k * 5,none⟩)
 | 19 => v = .pointer (some ⟨go,k * 5 + 4,none⟩)
 | 20 => v = vA
 | 21 => v = .int .i64 (ik:Nat)
 | 22 => TmpS S v #[.int .i64 (ik:Nat)] 3 w
 | 23 => True
 | 24 => v = .pointer (some ⟨go,k * 5,none⟩)
 | 25 => v = .pointer (some ⟨go,k * 5,none⟩)
 | 26 => v = .pointer (some ⟨go,k * 5 + 2,none⟩)
 | 27 => True
 | _ => True
theorem φM12_mono {W0:World} {go k gp b off n cap ik:Nat} {vT vA:Value} {no:Int} (i:Nat) (x:Value) (w w':World) (e:RowsE W0 w w') (h:φM12 W0.heap.size go k gp b off n cap ik vT vA no i x w):φM12 W0.heap.size go k gp b off n cap ik vT vA no i x w':=by
 match i,h with
 | 0,h => exact h
 | 1,h => exact h
 | 2,h => exact h
 | 3,h => exact h
 | 4,h => exact h
 | 5,h => exact h
 | 6,h => exact h
 | 7,h => exact h
 | 8,h => exact h
 | 9,h => exact h
 | 10,h => exact h
 | 11,h => exact h
 | 12,h => exact h
 | 13,h => exact h
 | 14,h => exact h
 | 15,h => exact TmpS.mono e h
 | 16,h => exact h
 | 17,h => exact h
 | 18,h => exact h
 | 19,h => exact h
 | 20,h => exact h
 | 21,h => exact h
 | 22,h => exact TmpS.mono e h
 | 23,h => exact h
 | 24,h => exact h
 | 25,h => exact h
 | 26,h => exact h
 | 27,h => exact h
 | i + 28,h => exact trivial
def φM13 (S:Nat) (go k gp b off n cap ik:Nat) (vI:Value) (ad:Addr) (ln ic:Nat) (i:Nat) (v:Value) (w:World):Prop :=
 match i with
 | 0 => v = .pointer (some ⟨go,k * 5,none⟩)
 | 1 => v = .pointer (some ⟨go,k * 5,none⟩)
 | 2 => v = .pointer (some ⟨go,k * 5,none⟩)
 | 3 => v = .pointer (some ⟨go,k * 5,none⟩)
 | 4 => v = .pointer (some ⟨go,k * 5 + 3,none⟩)
 | 5 => v = vI
 | 6 => v = .pointer (some ⟨gp,0,none⟩)
 | 7 => v = .pointer (some ⟨gp,0,none⟩)
 | 8 => v = .pointer (some ⟨gp,4,none⟩)
 | 9 => v = .slice (some ⟨b,off,none⟩) n cap
 | 10 => v = .int .i64 (ik:Nat)
 | 11 => v = .pointer (some ⟨b,off + ik * 5,none⟩)
 | 12 => v = .pointer (some ⟨b,off + ik * 5 + 3,none⟩)
 | 13 => v = .slice (some ad) ln ic
 | 14 => True
 | _ => True
theorem φM13_mono {W0:World} {go k gp b off n cap ik:Nat} {vI:Value} {ad:Addr} {ln ic:Nat} (i:Nat) (x:Value) (w w':World) (e:RowsE W0 w w') (h:φM13 W0.heap.size go k gp b off n cap ik vI ad ln ic i x w):φM13 W0.heap.size go k gp b off n cap ik vI ad ln ic i x w':=by
 match i,h with
 | 0,h => exact h
 | 1,h => exact h
 | 2,h => exact h
 | 3,h => exact h
 | 4,h => exact h
 | 5,h => exact h
 | 6,h => exact h
 | 7,h => exact h
 | 8,h => exact h
 | 9,h => exact h
 | 10,h => exact h
 | 11,h => exact h
 | 12,h => exact h
 | 13,h => exact h
 | 14,h => exact h
 | i + 15,h => exact trivial
def tsM12 (vT vA:Value) (B n1 n2:Nat) (x1 y1 x2 y2:List Value):List RowT:=[⟨16,66,vT,B,3,1,n1,x1,n1 + 1,y1⟩,⟨23,73,vA,B,3,1,n2,x2,n2 + 1,y2⟩]
def tsM13 (vI:Value) (B n1 m:Nat) (x1 y1:List Value):List RowT:=[⟨14,93,vI,B,36,2,n1,x1,n1 + m,y1⟩]
theorem tsM12_own {g0:Nat} {vT vA:Value} {B n1 n2:Nat} {x1 y1 x2 y2:List Value} {W0 W:World} {L:Array Bool} {a:Act} (h:RowsX g0 W0 (tsM12 vT vA B n1 n2 x1 y1 x2 y2) L a W) (h1:L.getD 16 false = true) (h2:L.getD 23 false = true) {z1 z2:Value} (e1:a.tmps.getD 66 undef = z1) (e2:a.tmps.getD 73 undef = z2) :
  W.ownsRow B 3 1 z1 (n1 + 1) y1 ∧ W.ownsRow B 3 1 z2 (n2 + 1) y2 ∧ apart z1 z2 ∧ (z1.ownBlock = vT.ownBlock ∨ ∃ g,z1.ownBlock = some g ∧ W0.heap.size ≤ g) ∧ (z2.ownBlock = vA.ownBlock ∨ ∃ g,z2.ownBlock = some g ∧ W0.heap.size ≤ g):=by
 have o1:=h.own ⟨16,66,vT,B,3,1,n1,x1,n1 + 1,y1⟩ (by simp [tsM12])
 have o2:=h.own ⟨23,73,vA,B,3,1,n2,x2,n2 + 1,y2⟩ (by simp [tsM12])
 have l1:=h.lies ⟨16,66,vT,B,3,1,n1,x1,n1 + 1,y1⟩ (by simp [tsM12])
 have l2:=h.lies ⟨23,73,vA,B,3,1,n2,x2,n2 + 1,y2⟩ (by simp [tsM12])
 have ap:=h.apart
 simp only [tsM12,List.pairwise_cons] at ap
 have ap:=ap.1 _ (List.mem_singleton.2 rfl)
 unfold RowT.own at o1 o2
 unfold RowT.val at ap l1 l2
 simp only [h1,h2,e1,e2,if_true] at o1 o2 ap l1 l2
 exact ⟨o1,o2,ap,l1,l2⟩
theorem tsM12_form {g0:Nat} {vT vA:Value} {B n1 n2:Nat} {x1 y1 x2 y2:List Value} {W0 W:World} {L:Array Bool} {a:Act} (h:RowsX g0 W0 (tsM12 vT vA B n1 n2 x1 y1 x2 y2) L a W) (h1:L.getD 16 false = true):∃ A c,a.tmps.getD 66 undef = .slice A (n1 + 1) c:=by
 have o1:=h.own ⟨16,66,vT,B,3,1,n1,x1,n1 + 1,y1⟩ (by simp [tsM12])
 unfold RowT.own at o1
 simp only [h1,if_true] at o1
 rcases o1.2 with ⟨_,hn⟩ | ⟨g,cap,cur,hv,_⟩
 ·cases hn
 ·exact ⟨_,_,hv⟩
theorem J12.early {go off:Nat} {W0 W:World} {ts:List RowT} {L:Array Bool} {a:Act} (h:J12 go off W0 ts L a W) (h6:L.getD 6 false = false):L.getD 27 false = false:=by
 cases e:L.getD 27 false with
 | false => rfl
 | true => rw [h.d2 (h.d1 e)] at h6;cases h6
theorem RowsE.store {W0 W:World} {go off:Nat} (h:go < W0.heap.size) (v:Value):RowsE W0 W (W.setCell ⟨go,off,none⟩ v) :=
 ⟨by simp [World.setCell],fun b hb _ => Below.heap_setCell W ⟨go,off,none⟩ v b (by show b ≠ go;omega)⟩
theorem ready_on {l:List Oper} {L:Array Bool} {i:Nat} {o:Oper} (hr:i ∈ Region.ready .any l.toArray L) (_:True) (ho:l[i]? = some o) (e:Edge) (he:e ∈ o.after) (hb:Region.binds .any e = true):L.getD e.on false = true:=by
 obtain ⟨_,oi,hoi,hall⟩:=mem_ready.1 hr
 have:o = oi:=Option.some.inj (ho.symm.trans (by simpa using hoi))
 subst this
 exact hall e he hb
theorem tsM13_own {vI:Value} {B n1 m:Nat} {x1 y1:List Value} {W0 W:World} {L:Array Bool} {a:Act} (h:RowsJ W0 (tsM13 vI B n1 m x1 y1) L a W) (h1:L.getD 14 false = true) {z1:Value} (e1:a.tmps.getD 93 undef = z1) :
  W.ownsRow B 36 2 z1 (n1 + m) y1 ∧ (z1.ownBlock = vI.ownBlock ∨ ∃ g,z1.ownBlock = some g ∧ W0.heap.size ≤ g):=by
 have o1:=h.own ⟨14,93,vI,B,36,2,n1,x1,n1 + m,y1⟩ (by simp [tsM13])
 have l1:=h.lies ⟨14,93,vI,B,36,2,n1,x1,n1 + m,y1⟩ (by simp [tsM13])
 unfold RowT.own at o1
 unfold RowT.val at l1
 simp only [h1,e1,if_true] at o1 l1
 exact ⟨o1,l1⟩
theorem zeroIntR (w:World):(zeroValue 3).run Tryz.prog w = .ok (.int .i64 0) w:=by kernel_rfl
def LY (w:World) (B:Nat) (ms:List MemD) (nos:Nat → List Int) (idss:Nat → List IdD) (ats:Nat → List Int) (k:Nat) (vo:Value) (W:World):Prop :=
 ∃ ms' ids',MS w B ms' nos ids' ats vo W ∧ ms'.length = ms.length ∧ (∀ q (h1:q < ms.length) (h2:q < ms'.length),ms'[q].key = ms[q].key) ∧ (∀ q,q < k → IdsOk (idss q) (ids' q)) ∧ ∀ q,k ≤ q → ids' q = idss q
structure MemQ (J:IdD → Bool) (ts:List TchD) (rep:Nat → Nat) (ms:List MemD) (nos:Nat → List Int) (ids:Nat → List IdD) (ats:Nat → List Int):Prop where
 len:ms.length = (rts rep ts.length).length
 key:∀ k (h:k < (rts rep ts.length).length) (h':k < ms.length),ms[k].key = keyF J (tAt ts (rts rep ts.length)[k]).ids
 nos:∀ k (h:k < (rts rep ts.length).length),nos k = (cls rep ts.length (rts rep ts.length)[k]).map fun q => (tAt ts q).no
 ats:∀ k (h:k < (rts rep ts.length).length),ats k = (cls rep ts.length (rts rep ts.length)[k]).map fun q:Nat => (q:Int)
 ids:∀ k (h:k < (rts rep ts.length).length),IdsOk ((cls rep ts.length (rts rep ts.length)[k]).flatMap fun q => (tAt ts q).ids) (ids k)
def AtRoot (rep:Nat → Nat) (i:Nat) (k:Nat):Prop:=(rts rep (i + 1))[k]? = some (rep i)
set_option maxHeartbeats 8000000 in
set_option maxRecDepth 100000 in
theorem members_any {H:Frz} {gp bm nm:Nat} {m:Lit → Option Value} {r:RulD} {A:Option Addr} {cap:Nat} {ts:List TchD} (hG:GrpIn H gp bm nm m r A cap ts) (hw:RisingI r.weaks) (hwl:r.weaks.length ≤ 1000000) (hkl:r.kinds.length ≤ 1000000) (hl:ts.length ≤ 50000) (hfit:∀ t ∈ ts,(∀ x ∈ t.ids,FitId x) ∧ 0 < t.ids.length ∧ t.ids.length ≤ 20) (w:World) (hH:H.In w) :
  Calls Tryz.prog 39 #[.pointer (some ⟨gp,0,none⟩)] w fun e w' => ∃ (vout:Value) (B:Nat) (rr:List Nat) (ms:List MemD) (nos ats:Nat → List Int) (ids:Nat → List IdD),e = .returned vout ∧ Uf (Share (JD r ts) ts) rr ∧ MS w B ms nos ids ats vout w' ∧ MemQ (JD r ts) ts (repN rr) ms nos ids ats:=by
 obtain ⟨i0,hi0,hz0,hz1,hz2⟩:=info_parts infoMem
 have HI0:=Lib.hid hi0
 obtain ⟨j0,hji,hj0,hj1,hj2⟩:=info_parts (show (Tryz.prog.info? 3).map (fun i => (i.zero,i.size,i.bytes)) = some (some (.int .i64 0),1,8) by kernel_rfl)
 have HJ0:=Lib.hid hji
 clear hji
 obtain ⟨y0,hyi,hy0,hy1,hy2⟩:=info_parts (show (Tryz.prog.info? 36).map (fun i => (i.zero,i.size,i.bytes)) = some (some (.agg #[.int .i64 0,.string ⟨#[]⟩]),2,24) by kernel_rfl)
 have HY0:=Lib.hid hyi
 clear hyi
 have hmm:=@run_makeMap Tryz.prog
 have HPA:=Lib.hid (fun W hW => parts_any hG hw hwl hkl (by omega) (fun t ht => (hfit t ht).1) W hW)
 have HKO:=Lib.hid (fun t hR hf h0 hl W hW => keyOf_any hG hw hwl hkl t hR hf h0 hl W hW)
 have HIN:=Lib.hid (fun W (hW:Below w.heap.size w W) => hH.below hW)
 have HG:=Lib.hid hG
 have HFIT:=Lib.hid hfit
 have HB1:=Lib.hid (new1 (w:=w) (.map #[] 0))
 have HM1:=Lib.hid (Mp.made Tryz.prog 3 w)
 clear hG hw hH hfit hi0
 go_enter Tryz.func39,Tryz.ntmps39
 go_wp2_with fail
 generalize w.alloc (.map #[] 0) = w1 at *
 refine (HPA.out w1 (HIN.out _ HB1.out)).mono ?_
 rintro e w2 ⟨rr,gr,rfl,huf,hrow,hb2,hge⟩
 have HUF:=Lib.hid huf
 have LX0:Hid (LX w w2.heap.size gr w.heap.size ts.length 0 (JD r ts) ts (repN rr) (rts (repN rr) 0) 0 (.slice none 0 0) w2):=by
  have h1:=HM1.out.lt
  have h2:=HB1.out.trans (hb2.mono HB1.out.size)
  have h3:=hrow.lt
  exact ⟨[],_,_,_,0,mpNew,MS.start h2 h2.size,MC.start _ _ _,HM1.out.below hb2,Nat.le_refl _,PM.start,hrow,by omega,by omega,by omega,by omega,by omega,Nat.le_refl _⟩
 clear huf hrow hb2 hge hmm HM1
 generalize w2.heap.size = B at *
 generalize hbp:w.heap.size = bp at LX0 ⊢
 have HREP:Hid (∀ q,repN rr q ≤ q):=repN_le rr
 have HIDM:Hid (∀ q,repN rr (repN rr q) = repN rr q):=repN_idem HUF.out.dn
 have HREQ:Hid (∃ rr',repN rr = repN rr' ∧ Uf (Share (JD r ts) ts) rr'):=⟨rr,rfl,HUF.out⟩
 generalize repN rr = rep at *
 go_wp2_with fail
 go_loopw [4,15] (fun vo t wr => ∃ i:Nat,i ≤ ts.length ∧ t = .int .i64 i ∧ Hid (LX w B gr bp ts.length i (JD r ts) ts rep (rts rep i) i vo wr)) (fun _ t _ => ts.length - (intOf t).toNat)
 case atStart => exact ⟨0,by omega,rfl,LX0⟩
 case round =>
  obtain ⟨i,hi,rfl,J⟩:=hrel
  clear LX0
  by_cases hlt:i < ts.length
  ·obtain ⟨ms,nos,idss,ats,cnt,pm,hS⟩:=J.out
   have HS:=Lib.hid hS
   have c0:=hS.cellR hlt
   have hri:=HREP.out i
   have HKY:Hid (keyOf Tryz.prog 3 (.int .i64 ((rep i:Nat):Int)) = some (.int .i64 ((rep i:Nat):Int))):=keyInt (by omega) (by omega)
   have HMP:=Lib.hid hS.mp
   have hlt2:(i:Int) < ts.length:=by omega
   have HCL:Hid (cnt < maxLen):=by have:=hS.cl;show _ < _;unfold maxLen;omega
   clear hS J
   go_upto_if 27 with (at_lookup;refine wpList_mp_ok _ rfl _ _ 125 rfl 3 3 intKeyed Tryz.underlying125 (.int .i64 0) (zeroIntR _) bp cnt pm rfl HMP.out _ _ rfl HKY.out ?_)
   have HPK:Hid (∃ kz:Int,(pm (.int .i64 ((rep i:Nat):Int))).getD (.int .i64 0) = .int .i64 kz ∧ ((pm (.int .i64 ((rep i:Nat):Int))).isSome = true → rep i ≠ i ∧ ∃ k:Nat,kz = (k:Int) ∧ (rts rep i)[k]? = some (rep i)) ∧ ((pm (.int .i64 ((rep i:Nat):Int))).isSome = false → rep i = i)):=by
    by_cases hr:rep i = i
    ·have hn:i ∉ rts rep i:=fun c => by have:=(mem_rts.1 c).1;omega
     rw [hr,HS.out.pmm.no i hn (by omega)]
     exact ⟨0,rfl,fun c => (by cases c),fun _ => rfl⟩
    ·have hm:rep i ∈ rts rep i:=mem_rts.2 ⟨by omega,HIDM.out i⟩
     obtain ⟨k,hk,ek⟩:=List.getElem_of_mem hm
     have:=HS.out.pmm.has k hk
     rw [ek] at this
     rw [this]
     exact ⟨k,rfl,fun _ => ⟨hr,k,rfl,by rw [List.getElem?_eq_getElem hk,ek]⟩,fun c => (by cases c)⟩
   obtain ⟨kz,hkz,hk1,hk2⟩:=HPK.out
   have hno:(pm (.int .i64 ((rep i:Nat):Int))).isNone = !(pm (.int .i64 ((rep i:Nat):Int))).isSome:=by cases (pm (.int .i64 ((rep i:Nat):Int))) <;> rfl
   simp only [hno]
   clear hno
   rw [hkz]
   generalize (pm (.int .i64 ((rep i:Nat):Int))).isSome = bk at *
   have HK1:=Lib.hid hk1
   have HK2:=Lib.hid hk2
   clear hkz hk1 hk2 HPK
   go_cut [4,7] (fun s4 s7 wx => ∃ k:Nat,s7 = .int .i64 (k:Int) ∧ Hid (AtRoot rep i k) ∧ Hid (LX w B gr bp ts.length (i + 1) (JD r ts) ts rep (rts rep (i + 1)) i s4 wx))
   case first =>
    cases bk with
    | true =>
     obtain ⟨hne,k,rfl,hk⟩:=HK1.out rfl
     have HA1:Hid (AtRoot rep i k):=by
      unfold AtRoot
      rw [rts_succ,if_neg hne,List.append_nil]
      exact hk
     have HL1:Hid (∀ vo,LS w B gr bp ts.length i (JD r ts) ts rep (rts rep i) i ms nos idss ats vo cnt pm wr → LX w B gr bp ts.length (i + 1) (JD r ts) ts rep (rts rep (i + 1)) i vo wr):=fun vo h => by
      rw [rts_succ,if_neg hne,List.append_nil]
      exact ⟨ms,nos,idss,ats,cnt,pm,h.st,h.mc,h.mp,Nat.le_succ_of_le h.cl,h.pmm,h.row,h.lt⟩
     have HL2:=Lib.hid (HL1.out _ HS.out)
     clear HK1 HK2 hk hne
     go_wp2_with fail
     go_meet
     exact ⟨k,rfl,HA1,HL2⟩
    | false =>
     have hre:=HK2.out rfl
     obtain ⟨A',c',hvo,_⟩:=HS.out.st.out.slice
     have HVO:=Lib.hid hvo
     have hni:rep i ∉ rts rep i:=fun c => by have:=(mem_rts.1 c).1;omega
     have HNEW:=Lib.hid (fun W1 W2 W3 d v' => HS.out.new (r0:=rep i) (W1:=W1) (W2:=W2) (W3:=W3) (d:=d) (v':=v') (fun q hq => by have:=(mem_rts.1 hq).1;omega) hni (by omega) (by rw [hre];exact cls_new HREP.out i))
     have HLN:=Lib.hid HS.out.mc.len
     have HNEXT:Hid (rts rep (i + 1) = rts rep i ++ [rep i]):=by show _ = _;rw [rts_succ,if_pos hre,hre]
     have HKF:Hid (keyF (JD r ts) (tAt ts (rep i)).ids = keyF (JD r ts) ts[i].ids):=by show _ = _;rw [hre,tAt_lt hlt]
     have HBEL:=Lib.hid HS.out.st.bel
     have HSO:=Lib.hid HS.out.st.out
     have HBW:=Lib.hid HS.out.lt
     have hmsl:ms.length ≤ 100000:=by have h1:=HLN.out;have h2:=rts_le rep i;omega
     subst hvo
     clear HK1 HK2 hni hre HS
     go_upto_region 10 with (at_mapUpdate;refine wpList_mp_set _ rfl _ _ _ 125 rfl 3 3 intKeyed Tryz.underlying125 bp cnt pm rfl HMP.out HCL.out _ _ _ rfl rfl HKY.out ?_;intro w5 hM5 hg5 hz5;have HM5:Hid (Mp Tryz.prog 3 w5 bp (cnt + 1) (mpSet pm (.int .i64 ((rep i:Nat):Int)) (.int .i64 (ms.length:Int)))):=hM5;have HG5:=Lib.hid hg5;have HZ5:=Lib.hid hz5;clear hM5 hg5 hz5)
     have HBE5:Hid (Below w.heap.size w w5):=by
      have h1:=HBW.out
      exact ⟨HG5.out.os.trans HBEL.out.os,HG5.out.tape.trans HBEL.out.tape,HG5.out.output.trans HBEL.out.output,Nat.le_trans HBEL.out.size HG5.out.size,fun q hq => (HG5.out.block q (Nat.lt_of_lt_of_le hq HBEL.out.size) (fun e => by injection e with e;omega)).trans (HBEL.out.block q hq)⟩
     have hin5:=HIN.out _ HBE5.out
     have hk5:=hin5 gp _ HG.out.obj
     have p4:w5.cell? ⟨gp,4,none⟩ = some (.slice A ts.length cap):=cell_h hk5 4 rfl
     have HSO5:Hid (Orow w5 B 121 5 fMem (.slice A' ms.length c') ms):=HSO.out.kept HG5.out (by
      cases e:(Value.slice A' ms.length c').ownBlock with
      | none => exact Or.inl rfl
      | some q =>
       right
       intro c
       injection c with c
       have h1:=HBW.out
       have h2:=(HSO.out.lt e).1
       omega)
     obtain ⟨b,off,rfl,_,hc⟩:=HG.out.tch.1.at_ hin5 hlt (by omega)
     have e0:w5.cell? ⟨b,off + i * 5,none⟩ = some (.int .i64 ts[i].no):=hc 0 (by omega)
     have e1:w5.cell? ⟨b,off + i * 5 + 1,none⟩ = some (.int .i64 ts[i].at_):=hc 1 (by omega)
     have e2:w5.cell? ⟨b,off + i * 5 + 2,none⟩ = some (.string ts[i].source):=hc 2 (by omega)
     have e3:w5.cell? ⟨b,off + i * 5 + 3,none⟩ = some (.slice ts[i].ia ts[i].ids.length ts[i].ic):=hc 3 (by omega)
     have e4:w5.cell? ⟨b,off + i * 5 + 4,none⟩ = some (.slice ts[i].fa ts[i].fields.length ts[i].fc):=hc 4 (by omega)
     have HTI:=Lib.hid (HG.out.tch.2 _ (List.getElem_mem hlt)).1
     have HTF:=Lib.hid (HFIT.out _ (List.getElem_mem hlt))
     have HTA:Hid (tAt ts i = ts[i]):=tAt_lt hlt
     clear hc hk5 HSO
     generalize ts[i] = t at *
     go_wp2_with fail
     refine (HKO.out t HTI.out HTF.out.1 HTF.out.2.1 (by have:=HTF.out.2.2;omega) w5 hin5).mono ?_
     rintro e w6 ⟨rfl,hb6⟩
     have HB6:=Lib.hid hb6
     have HSO6:=Lib.hid (HSO5.out.below hb6)
     have HB6s:Hid (B ≤ w6.heap.size):=by have h1:=HBW.out;have h2:=HG5.out.size;have h3:=hb6.size;show _ ≤ _;omega
     clear p4 hin5 hb6 e0 e1 e2 e3 e4 HSO5
     generalize hky:keyF (JD r ts) t.ids = ky at *
     have HKYD:=Lib.hid hky
     clear hky
     go_wp2_with (at_builtin;refine wpList_app_at rfl _ _ 96 rfl B 121 i0 (.agg #[.int .i64 0,.string ⟨#[]⟩,.slice none 0 0,.slice none 0 0,.slice none 0 0]) 5 96 Tryz.underlying96 HI0.out hz0 hz1 hz2 rfl (by decide) fMem _ ms rfl HSO6.out ⟨ky,.slice none 0 0,.slice none 0 0,.slice none 0 0⟩ #[.int .i64 ky.kind,.string ky.text,.slice none 0 0,.slice none 0 0,.slice none 0 0] 121 rfl rfl (by simp [Value.oneCell']) (by omega) (by omega) HB6s.out ?_;intro v1 w7 o1 g1 b1 at1;have HO1:=Lib.hid o1;have HG1:=Lib.hid g1;have HA1:=Lib.hid at1;clear o1 g1 b1 at1)
     have HLX:Hid (LX w B gr bp ts.length (i + 1) (JD r ts) ts rep (rts rep (i + 1)) i v1 w7):=by
      have hJ:=HNEW.out w5 w6 w7 ⟨ky,.slice none 0 0,.slice none 0 0,.slice none 0 0⟩ v1 (by rw [← HLN.out];exact HM5.out) HG5.out HB6.out rfl rfl rfl HKF.out.symm HO1.out HG1.out (HA1.out.imp id (fun ⟨g,h1,h2⟩ => ⟨g,h1,by omega⟩))
      rw [HNEXT.out]
      exact ⟨_,_,_,_,_,_,hJ⟩
     have HAT:Hid (AtRoot rep i ms.length):=by
      unfold AtRoot
      rw [HNEXT.out,HLN.out]
      exact List.getElem?_concat_length
     clear HNEW HO1 HG1 HA1 HM5 HG5 HB6 HSO6
     go_wp2_with fail
     go_meet
     exact ⟨ms.length,rfl,HAT,HLX⟩
   case rest =>
   obtain ⟨k,rfl,HA1,HL2⟩:=hcut
   clear HS HMP HCL HKY
   obtain ⟨ms,nos,idss,ats,cnt,pm,hS⟩:=HL2.out
   have hkr:k < (rts rep (i + 1)).length:=(List.getElem?_eq_some_iff.1 HA1.out).1
   have hkm:k < ms.length:=by rw [hS.mc.len];exact hkr
   obtain ⟨go,capo,rest,rfl,hcapo,hBgo,hgos,hcm,hblk,hrest⟩:=hS.st.blk (by omega)
   have HS:=Lib.hid hS
   have HBLK:=Lib.hid hblk
   have HREST:=Lib.hid hrest
   have HRT:=Lib.hid (hS.st.rowT hkm)
   have HRA:=Lib.hid (hS.st.rowA hkm)
   have HNB:Hid (B ≤ wc.heap.size ∧ w.heap.size ≤ B ∧ B ≤ go ∧ go < wc.heap.size):=by have h1:=hS.lt;have h2:=hS.st.ge;show _ ∧ _;omega
   have HLB:Hid ((nos k).length ≤ 100000 ∧ (ats k).length ≤ 100000 ∧ (idss k).length ≤ 10000000):=by
    have h1:=cls_le rep i (rts rep (i + 1))[k]
    refine ⟨by rw [hS.mc.nos k hkr,List.length_map];omega,by rw [hS.mc.ats k hkr,List.length_map];omega,?_⟩
    rw [hS.mc.ids k hkr]
    refine Nat.le_trans (flatMap_le (m:=20) _ _ fun q hq => ?_) (show (cls rep i (rts rep (i + 1))[k]).length * 20 ≤ 10000000 by omega)
    have hq2:q < i:=by unfold cls at hq;exact List.mem_range.1 (List.mem_filter.1 hq).1
    rw [tAt_lt (show q < ts.length by omega)]
    exact (HFIT.out _ (List.getElem_mem _)).2.2
   have HSEP:Hid (apart ms[k].vT ms[k].vA ∧ ms[k].vT.ownBlock ≠ some go ∧ ms[k].vA.ownBlock ≠ some go ∧ ms[k].vI.ownBlock ≠ some go):=⟨hS.st.sepTA hkm,(hS.st.sepOut hkm rfl).1,(hS.st.sepOut hkm rfl).2.1,(hS.st.sepOut hkm rfl).2.2⟩
   have HBEL:=Lib.hid hS.st.bel
   have hin9:=HIN.out _ hS.st.bel
   obtain ⟨b,off,rfl,_,hc⟩:=HG.out.tch.1.at_ hin9 hlt (by omega)
   have HTC:Hid (∀ W,H.In W → ∀ j,j < 5 → W.cell? ⟨b,off + i * 5 + j,none⟩ = some (fTch ts[i] j)):=fun W hW j hj => by
    obtain ⟨b',off',e,_,hc'⟩:=HG.out.tch.1.at_ hW hlt (by omega)
    injection e with e
    injection e with e1 e2
    subst e1 e2
    exact hc' j hj
   have HTI:=Lib.hid (HG.out.tch.2 _ (List.getElem_mem hlt)).1
   have HTF:=Lib.hid (HFIT.out _ (List.getElem_mem hlt))
   have HTA:Hid (tAt ts i = ts[i]):=tAt_lt hlt
   clear hc hin9 hblk hrest hS HL2 c0
   obtain ⟨no,hno⟩:∃ no,no = ts[i].no:=⟨_,rfl⟩
   have HNO:=Lib.hid hno
   clear hno
   obtain ⟨d,hd⟩:∃ d,d = ms[k]:=⟨_,rfl⟩
   rw [← hd] at HRT HRA HSEP
   have HD:=Lib.hid hd
   clear hd
   have HBW:Hid (∀ W2 L a,J12 go (k * 5 + 2) wc (tsM12 d.vT d.vA B (nos k).length (ats k).length (cellsOf 1 fI (nos k)) (cellsOf 1 fI (nos k) ++ [.int .i64 no]) (cellsOf 1 fI (ats k)) (cellsOf 1 fI (ats k) ++ [.int .i64 (i:Nat)])) L a W2 → Below w.heap.size wc W2):=by
    intro W2 L a hJ
    have h1:=HNB.out
    exact hJ.rows.below (by omega) (by omega) (fun t ht g hg => by
     simp only [tsM12,List.mem_cons,List.not_mem_nil,or_false] at ht
     rcases ht with rfl | rfl
     ·have:=(HRT.out.lt hg).1;omega
     ·have:=(HRA.out.lt hg).1;omega)
   have HKB:Hid (∀ W2 L a,J12 go (k * 5 + 2) wc (tsM12 d.vT d.vA B (nos k).length (ats k).length (cellsOf 1 fI (nos k)) (cellsOf 1 fI (nos k) ++ [.int .i64 no]) (cellsOf 1 fI (ats k)) (cellsOf 1 fI (ats k) ++ [.int .i64 (i:Nat)])) L a W2 → (L.getD 27 false = false → KBlk W2 go 121 5 fMem ms rest) ∧ (L.getD 27 false = true → KBlk W2 go 121 5 fMem (ms.set k { d with vT:=a.tmps.getD 66 undef }) rest)):=by
    intro W2 L a hJ
    refine ⟨fun e => (hJ.g0 e).trans HBLK.out,fun e => (hJ.g1 e).trans ?_⟩
    rw [HD.out]
    exact HBLK.out.upd k 2 hkm (by decide) (d':={ ms[k] with vT:=a.tmps.getD 66 undef }) rfl (fun q hq hne => by
     match q,hq,hne with
     | 0,_,_ => rfl
     | 1,_,_ => rfl
     | 3,_,_ => rfl
     | 4,_,_ => rfl)
   have HCEL:Hid (∀ W2 L a,J12 go (k * 5 + 2) wc (tsM12 d.vT d.vA B (nos k).length (ats k).length (cellsOf 1 fI (nos k)) (cellsOf 1 fI (nos k) ++ [.int .i64 no]) (cellsOf 1 fI (ats k)) (cellsOf 1 fI (ats k) ++ [.int .i64 (i:Nat)])) L a W2 → ∃ x,W2.cell? ⟨go,k * 5 + 2,none⟩ = some x ∧ W2.frozen? ⟨go,k * 5 + 2,none⟩ = false):=by
    intro W2 L a hJ
    obtain ⟨h1,h2⟩:=HKB.out W2 L a hJ
    cases e:L.getD 27 false with
    | false => exact ⟨_,(h1 e).cell k 2 hkm (by omega),(h1 e).frozen _⟩
    | true => exact ⟨_,(h2 e).cell k 2 (by simpa using hkm) (by omega),(h2 e).frozen _⟩
   have HALL:Hid (∀ W2 L a,J12 go (k * 5 + 2) wc (tsM12 d.vT d.vA B (nos k).length (ats k).length (cellsOf 1 fI (nos k)) (cellsOf 1 fI (nos k) ++ [.int .i64 no]) (cellsOf 1 fI (ats k)) (cellsOf 1 fI (ats k) ++ [.int .i64 (i:Nat)])) L a W2 → (L.getD 27 false = false → W2.cell? ⟨go,k * 5 + 2,none⟩ = some d.vT) ∧ W2.cell? ⟨go,k * 5 + 4,none⟩ = some d.vA ∧ W2.cell? ⟨gp,4,none⟩ = some (.slice (some ⟨b,off,none⟩) ts.length cap) ∧ W2.cell? ⟨b,off + i * 5,none⟩ = some (.int .i64 no)):=by
    intro W2 L a hJ
    obtain ⟨h1,h2⟩:=HKB.out W2 L a hJ
    have hin:=HIN.out _ (HBEL.out.trans (HBW.out W2 L a hJ))
    refine ⟨fun e => ?_,?_,cell_h (hin gp _ HG.out.obj) 4 rfl,?_⟩
    ·have:=(h1 e).cell k 2 hkm (by omega)
     rw [← HD.out] at this
     exact this
    ·cases e:L.getD 27 false with
     | false =>
      have:=(h1 e).cell k 4 hkm (by omega)
      rw [← HD.out] at this
      exact this
     | true =>
      have:=(h2 e).cell k 4 (by simpa using hkm) (by omega)
      rw [List.getElem_set_self] at this
      exact this
    ·have:=HTC.out W2 hin 0 (by omega)
     rw [HNO.out]
     exact this
   have HLT1:Hid (∀ g,d.vT.ownBlock = some g → g < wc.heap.size):=fun g hg => (HRT.out.lt hg).2
   have HLT2:Hid (∀ g,d.vA.ownBlock = some g → g < wc.heap.size):=fun g hg => (HRA.out.lt hg).2
   have hkc:k < capo:=by omega
   go_upto_region 12 with (fail)
   refine wp_region_concV 28 124 (φM12 wc.heap.size go k gp b off ts.length cap i d.vT d.vA no) (J12 go (k * 5 + 2) wc (tsM12 d.vT d.vA B (nos k).length (ats k).length (cellsOf 1 fI (nos k)) (cellsOf 1 fI (nos k) ++ [.int .i64 no]) (cellsOf 1 fI (ats k)) (cellsOf 1 fI (ats k) ++ [.int .i64 (i:Nat)]))) (RowsE wc) (by kernel_rfl) (by kernel_rfl) (by rfl) (J12.start (fun t ht => by
       simp only [tsM12,List.mem_cons,List.not_mem_nil,or_false] at ht
       rcases ht with rfl | rfl
       ·exact HRT.out
       ·exact HRA.out) (by
       simp only [tsM12]
       exact List.Pairwise.cons (fun t ht => by rw [List.mem_singleton.1 ht];exact HSEP.out.1) (List.pairwise_singleton _ _)) _ _) (fun i x w w' _ e h => φM12_mono i x w w' e h) (fun i x w hi e _ => by have hcs:i = 0 ∨ i = 1 ∨ i = 2 ∨ i = 3 ∨ i = 4 ∨ i = 5 ∨ i = 6 ∨ i = 7 ∨ i = 8 ∨ i = 9 ∨ i = 10 ∨ i = 11 ∨ i = 12 ∨ i = 13 ∨ i = 14 ∨ i = 15 ∨ i = 16 ∨ i = 17 ∨ i = 18 ∨ i = 19 ∨ i = 20 ∨ i = 21 ∨ i = 22 ∨ i = 23 ∨ i = 24 ∨ i = 25 ∨ i = 26 ∨ i = 27:=(by omega);rcases hcs with rfl | rfl | rfl | rfl | rfl | rfl | rfl | rfl | rfl | rfl | rfl | rfl | rfl | rfl | rfl | rfl | rfl | rfl | rfl | rfl | rfl | rfl | rfl | rfl | rfl | rfl | rfl | rfl <;> first | exact trivial | exact absurd e (by decide)) ?_ ?_
   ·intro n o hn ho a W2 L hr hsN hLs hJ hkn
    replace hsN:a.tmps.size = 124:=hsN
    have hcs:n = 0 ∨ n = 1 ∨ n = 2 ∨ n = 3 ∨ n = 4 ∨ n = 5 ∨ n = 6 ∨ n = 7 ∨ n = 8 ∨ n = 9 ∨ n = 10 ∨ n = 11 ∨ n = 12 ∨ n = 13 ∨ n = 14 ∨ n = 15 ∨ n = 16 ∨ n = 17 ∨ n = 18 ∨ n = 19 ∨ n = 20 ∨ n = 21 ∨ n = 22 ∨ n = 23 ∨ n = 24 ∨ n = 25 ∨ n = 26 ∨ n = 27:=by omega
    rcases hcs with rfl | rfl | rfl | rfl | rfl | rfl | rfl | rfl | rfl | rfl | rfl | rfl | rfl | rfl | rfl | rfl | rfl | rfl | rfl | rfl | rfl | rfl | rfl | rfl | rfl | rfl | rfl | rfl
    ·obtain rfl:=Option.some.inj ho
     refine OpV.mono (R:=fun v w' => φM12 wc.heap.size go k gp b off ts.length cap i d.vT d.vA no 0 v w' ∧ Below W2.heap.size W2 w') ?_ (fun v w' h => ⟨h.1,hJ.step HNB.out.2.2.2 h.2 (rows_ne (li:=[16,23]) (ls:=[66,73]) rfl rfl (by decide) (by decide)) (by decide) (by decide) (by decide) v,RowsE.of h.2⟩)
     exact ⟨hkn 9 (by decide),Below.refl _ _⟩
    ·obtain rfl:=Option.some.inj ho
     refine OpV.mono (R:=fun v w' => φM12 wc.heap.size go k gp b off ts.length cap i d.vT d.vA no 1 v w' ∧ Below W2.heap.size W2 w') ?_ (fun v w' h => ⟨h.1,hJ.step HNB.out.2.2.2 h.2 (rows_ne (li:=[16,23]) (ls:=[66,73]) rfl rfl (by decide) (by decide)) (by decide) (by decide) (by decide) v,RowsE.of h.2⟩)
     exact ⟨hkn 9 (by decide),Below.refl _ _⟩
    ·obtain rfl:=Option.some.inj ho
     refine OpV.mono (R:=fun v w' => φM12 wc.heap.size go k gp b off ts.length cap i d.vT d.vA no 2 v w' ∧ Below W2.heap.size W2 w') ?_ (fun v w' h => ⟨h.1,hJ.step HNB.out.2.2.2 h.2 (rows_ne (li:=[16,23]) (ls:=[66,73]) rfl rfl (by decide) (by decide)) (by decide) (by decide) (by decide) v,RowsE.of h.2⟩)
     exact ⟨hkn 9 (by decide),Below.refl _ _⟩
    ·obtain rfl:=Option.some.inj ho
     refine OpV.mono (R:=fun v w' => φM12 wc.heap.size go k gp b off ts.length cap i d.vT d.vA no 3 v w' ∧ Below W2.heap.size W2 w') ?_ (fun v w' h => ⟨h.1,hJ.step HNB.out.2.2.2 h.2 (rows_ne (li:=[16,23]) (ls:=[66,73]) rfl rfl (by decide) (by decide)) (by decide) (by decide) (by decide) v,RowsE.of h.2⟩)
     have h0:=slotv (hkn 52 (by decide):a.tmps.getD 52 undef = .pointer (some ⟨go,k * 5,none⟩))
     clear hkn ho
     simp only [OpV,execOp]
     simp [go_sem,h0]
     all_goals first | exact ⟨rfl,Below.refl _ _⟩ | exact Below.refl _ _
    ·obtain rfl:=Option.some.inj ho
     refine OpV.mono (R:=fun v w' => φM12 wc.heap.size go k gp b off ts.length cap i d.vT d.vA no 4 v w' ∧ Below W2.heap.size W2 w') ?_ (fun v w' h => ⟨h.1,hJ.step HNB.out.2.2.2 h.2 (rows_ne (li:=[16,23]) (ls:=[66,73]) rfl rfl (by decide) (by decide)) (by decide) (by decide) (by decide) v,RowsE.of h.2⟩)
     have h0:=slotv (hkn 53 (by decide):a.tmps.getD 53 undef = .pointer (some ⟨go,k * 5,none⟩))
     clear hkn ho
     simp only [OpV,execOp]
     simp [go_sem,h0]
     all_goals first | exact ⟨rfl,Below.refl _ _⟩ | exact Below.refl _ _
    ·obtain rfl:=Option.some.inj ho
     refine OpV.mono (R:=fun v w' => φM12 wc.heap.size go k gp b off ts.length cap i d.vT d.vA no 5 v w' ∧ Below W2.heap.size W2 w') ?_ (fun v w' h => ⟨h.1,hJ.step HNB.out.2.2.2 h.2 (rows_ne (li:=[16,23]) (ls:=[66,73]) rfl rfl (by decide) (by decide)) (by decide) (by decide) (by decide) v,RowsE.of h.2⟩)
     have h0:=slotv (hkn 54 (by decide):a.tmps.getD 54 undef = .pointer (some ⟨go,k * 5,none⟩))
     clear hkn ho
     simp only [OpV,execOp]
     simp [go_sem,h0]
     all_goals first | exact ⟨rfl,Below.refl _ _⟩ | exact Below.refl _ _
    ·obtain rfl:=Option.some.inj ho
     refine OpV.mono (R:=fun v w' => φM12 wc.heap.size go k gp b off ts.length cap i d.vT d.vA no 6 v w' ∧ Below W2.heap.size W2 w') ?_ (fun v w' h => ⟨h.1,hJ.step HNB.out.2.2.2 h.2 (rows_ne (li:=[16,23]) (ls:=[66,73]) rfl rfl (by decide) (by decide)) (by decide) (by decide) (by decide) v,RowsE.of h.2⟩)
     have h0:=slotv (hkn 55 (by decide):a.tmps.getD 55 undef = .pointer (some ⟨go,k * 5 + 2,none⟩))
     have hcc:=(HALL.out W2 _ _ hJ).1 (hJ.early (ready_not hr (by show (6:Nat) < L.size;rw [hLs];decide)))
     clear hkn ho
     simp only [OpV,execOp]
     simp [go_sem,h0,hcc]
     all_goals first | exact ⟨rfl,Below.refl _ _⟩ | exact Below.refl _ _
    ·obtain rfl:=Option.some.inj ho
     refine OpV.mono (R:=fun v w' => φM12 wc.heap.size go k gp b off ts.length cap i d.vT d.vA no 7 v w' ∧ Below W2.heap.size W2 w') ?_ (fun v w' h => ⟨h.1,hJ.step HNB.out.2.2.2 h.2 (rows_ne (li:=[16,23]) (ls:=[66,73]) rfl rfl (by decide) (by decide)) (by decide) (by decide) (by decide) v,RowsE.of h.2⟩)
     exact ⟨hkn 0 (by decide),Below.refl _ _⟩
    ·obtain rfl:=Option.some.inj ho
     refine OpV.mono (R:=fun v w' => φM12 wc.heap.size go k gp b off ts.length cap i d.vT d.vA no 8 v w' ∧ Below W2.heap.size W2 w') ?_ (fun v w' h => ⟨h.1,hJ.step HNB.out.2.2.2 h.2 (rows_ne (li:=[16,23]) (ls:=[66,73]) rfl rfl (by decide) (by decide)) (by decide) (by decide) (by decide) v,RowsE.of h.2⟩)
     have h0:=slotv (hkn 57 (by decide):a.tmps.getD 57 undef = .pointer (some ⟨gp,0,none⟩))
     clear hkn ho
     simp only [OpV,execOp]
     simp [go_sem,h0]
     all_goals first | exact ⟨rfl,Below.refl _ _⟩ | exact Below.refl _ _
    ·obtain rfl:=Option.some.inj ho
     refine OpV.mono (R:=fun v w' => φM12 wc.heap.size go k gp b off ts.length cap i d.vT d.vA no 9 v w' ∧ Below W2.heap.size W2 w') ?_ (fun v w' h => ⟨h.1,hJ.step HNB.out.2.2.2 h.2 (rows_ne (li:=[16,23]) (ls:=[66,73]) rfl rfl (by decide) (by decide)) (by decide) (by decide) (by decide) v,RowsE.of h.2⟩)
     have h0:=slotv (hkn 58 (by decide):a.tmps.getD 58 undef = .pointer (some ⟨gp,0,none⟩))
     clear hkn ho
     simp only [OpV,execOp]
     simp [go_sem,h0]
     all_goals first | exact ⟨rfl,Below.refl _ _⟩ | exact Below.refl _ _
    ·obtain rfl:=Option.some.inj ho
     refine OpV.mono (R:=fun v w' => φM12 wc.heap.size go k gp b off ts.length cap i d.vT d.vA no 10 v w' ∧ Below W2.heap.size W2 w') ?_ (fun v w' h => ⟨h.1,hJ.step HNB.out.2.2.2 h.2 (rows_ne (li:=[16,23]) (ls:=[66,73]) rfl rfl (by decide) (by decide)) (by decide) (by decide) (by decide) v,RowsE.of h.2⟩)
     have h0:=slotv (hkn 59 (by decide):a.tmps.getD 59 undef = .pointer (some ⟨gp,4,none⟩))
     have hcc:=(HALL.out W2 _ _ hJ).2.2.1
     clear hkn ho
     simp only [OpV,execOp]
     simp [go_sem,h0,hcc]
     all_goals first | exact ⟨rfl,Below.refl _ _⟩ | exact Below.refl _ _
    ·obtain rfl:=Option.some.inj ho
     refine OpV.mono (R:=fun v w' => φM12 wc.heap.size go k gp b off ts.length cap i d.vT d.vA no 11 v w' ∧ Below W2.heap.size W2 w') ?_ (fun v w' h => ⟨h.1,hJ.step HNB.out.2.2.2 h.2 (rows_ne (li:=[16,23]) (ls:=[66,73]) rfl rfl (by decide) (by decide)) (by decide) (by decide) (by decide) v,RowsE.of h.2⟩)
     exact ⟨hkn 5 (by decide),Below.refl _ _⟩
    ·obtain rfl:=Option.some.inj ho
     refine OpV.mono (R:=fun v w' => φM12 wc.heap.size go k gp b off ts.length cap i d.vT d.vA no 12 v w' ∧ Below W2.heap.size W2 w') ?_ (fun v w' h => ⟨h.1,hJ.step HNB.out.2.2.2 h.2 (rows_ne (li:=[16,23]) (ls:=[66,73]) rfl rfl (by decide) (by decide)) (by decide) (by decide) (by decide) v,RowsE.of h.2⟩)
     have h0:=slotv (hkn 60 (by decide):a.tmps.getD 60 undef = .slice (some ⟨b,off,none⟩) ts.length cap)
     have h1:=slotv (hkn 61 (by decide):a.tmps.getD 61 undef = .int .i64 (i:Nat))
     clear hkn ho
     simp only [OpV,execOp]
     simp [go_sem,h0,h1,hlt]
     all_goals first | exact ⟨rfl,Below.refl _ _⟩ | exact Below.refl _ _
    ·obtain rfl:=Option.some.inj ho
     refine OpV.mono (R:=fun v w' => φM12 wc.heap.size go k gp b off ts.length cap i d.vT d.vA no 13 v w' ∧ Below W2.heap.size W2 w') ?_ (fun v w' h => ⟨h.1,hJ.step HNB.out.2.2.2 h.2 (rows_ne (li:=[16,23]) (ls:=[66,73]) rfl rfl (by decide) (by decide)) (by decide) (by decide) (by decide) v,RowsE.of h.2⟩)
     have h0:=slotv (hkn 62 (by decide):a.tmps.getD 62 undef = .pointer (some ⟨b,off + i * 5,none⟩))
     clear hkn ho
     simp only [OpV,execOp]
     simp [go_sem,h0]
     all_goals first | exact ⟨rfl,Below.refl _ _⟩ | exact Below.refl _ _
    ·obtain rfl:=Option.some.inj ho
     refine OpV.mono (R:=fun v w' => φM12 wc.heap.size go k gp b off ts.length cap i d.vT d.vA no 14 v w' ∧ Below W2.heap.size W2 w') ?_ (fun v w' h => ⟨h.1,hJ.step HNB.out.2.2.2 h.2 (rows_ne (li:=[16,23]) (ls:=[66,73]) rfl rfl (by decide) (by decide)) (by decide) (by decide) (by decide) v,RowsE.of h.2⟩)
     have h0:=slotv (hkn 63 (by decide):a.tmps.getD 63 undef = .pointer (some ⟨b,off + i * 5,none⟩))
     have hcc:=(HALL.out W2 _ _ hJ).2.2.2
     clear hkn ho
     simp only [OpV,execOp]
     simp [go_sem,h0,hcc]
     all_goals first | exact ⟨rfl,Below.refl _ _⟩ | exact Below.refl _ _
    ·obtain rfl:=Option.some.inj ho
     refine OpV.mono (R:=fun v w' => φM12 wc.heap.size go k gp b off ts.length cap i d.vT d.vA no 15 v w' ∧ Below W2.heap.size W2 w') ?_ (fun v w' h => ⟨h.1,hJ.step HNB.out.2.2.2 h.2 (rows_ne (li:=[16,23]) (ls:=[66,73]) rfl rfl (by decide) (by decide)) (by decide) (by decide) (by decide) v,RowsE.of h.2⟩)
     have h0:=slotv (hkn 64 (by decide):a.tmps.getD 64 undef = .int .i64 no)
     clear hkn ho
     simp only [OpV,execOp]
     simp [go_sem,h0]
     exact ⟨⟨W2.heap.size,rfl,hJ.rows.size,heap_alloc_new _ _⟩,new1 _⟩
    ·obtain rfl:=Option.some.inj ho
     have h1:a.tmps.getD 56 undef = d.vT:=hkn 56 (by decide)
     obtain ⟨bq,h2,hb0,hh⟩:TmpS wc.heap.size (a.tmps.getD 65 undef) #[.int .i64 no] 3 W2:=hkn 65 (by decide)
     refine OpV.mono (hJ.rows.app (t:=⟨16,66,d.vT,B,3,1,(nos k).length,cellsOf 1 fI (nos k),(nos k).length + 1,cellsOf 1 fI (nos k) ++ [.int .i64 no]⟩) (by simp [tsM12]) rfl (ready_not hr (by show (16:Nat) < L.size;rw [hLs];decide)) (by show (16:Nat) < L.size;rw [hLs];decide) (by show (66:Nat) < a.tmps.size;rw [hsN];decide) (rows_other (li:=[16,23]) (ls:=[66,73]) rfl rfl (by decide) (by decide) (by simp [tsM12])) (nodup_of_map (f:=RowT.i) (show ([16,23]:List Nat).Nodup by decide)) (HLT1.out) (.tmp 56) (.tmp 65) 22 rfl j0 (.int .i64 0) 8 Tryz.underlying22 HJ0.out hj0 hj1 hj2 rfl (show (0:Nat) < 1 by decide) (by simpa [Act.eval] using h1) bq #[.int .i64 no] 3 (by simpa [Act.eval] using h2) hh rfl (by simp [Value.oneCell']) rfl rfl (by have:=HLB.out;show (nos k).length ≤ _;omega) (by decide) (by have:=HNB.out;show B ≤ _;omega)) (fun v w' h => ⟨trivial,hJ.app h.1 (h.2.2 HNB.out.2.2.2 (HSEP.out.2.1)) (Or.inl ⟨rfl,ready_on hr trivial ho ⟨6,.data⟩ (by simp) rfl,ready_not hr (by show (16:Nat) < L.size;rw [hLs];decide)⟩),h.2.1⟩)
    ·obtain rfl:=Option.some.inj ho
     refine OpV.mono (R:=fun v w' => φM12 wc.heap.size go k gp b off ts.length cap i d.vT d.vA no 17 v w' ∧ Below W2.heap.size W2 w') ?_ (fun v w' h => ⟨h.1,hJ.step HNB.out.2.2.2 h.2 (rows_ne (li:=[16,23]) (ls:=[66,73]) rfl rfl (by decide) (by decide)) (by decide) (by decide) (by decide) v,RowsE.of h.2⟩)
     exact ⟨hkn 9 (by decide),Below.refl _ _⟩
    ·obtain rfl:=Option.some.inj ho
     refine OpV.mono (R:=fun v w' => φM12 wc.heap.size go k gp b off ts.length cap i d.vT d.vA no 18 v w' ∧ Below W2.heap.size W2 w') ?_ (fun v w' h => ⟨h.1,hJ.step HNB.out.2.2.2 h.2 (rows_ne (li:=[16,23]) (ls:=[66,73]) rfl rfl (by decide) (by decide)) (by decide) (by decide) (by decide) v,RowsE.of h.2⟩)
     have h0:=slotv (hkn 67 (by decide):a.tmps.getD 67 undef = .pointer (some ⟨go,k * 5,none⟩))
     clear hkn ho
     simp only [OpV,execOp]
     simp [go_sem,h0]
     all_goals first | exact ⟨rfl,Below.refl _ _⟩ | exact Below.refl _ _
    ·obtain rfl:=Option.some.inj ho
     refine OpV.mono (R:=fun v w' => φM12 wc.heap.size go k gp b off ts.length cap i d.vT d.vA no 19 v w' ∧ Below W2.heap.size W2 w') ?_ (fun v w' h => ⟨h.1,hJ.step HNB.out.2.2.2 h.2 (rows_ne (li:=[16,23]) (ls:=[66,73]) rfl rfl (by decide) (by decide)) (by decide) (by decide) (by decide) v,RowsE.of h.2⟩)
     have h0:=slotv (hkn 68 (by decide):a.tmps.getD 68 undef = .pointer (some ⟨go,k * 5,none⟩))
     clear hkn ho
     simp only [OpV,execOp]
     simp [go_sem,h0]
     all_goals first | exact ⟨rfl,Below.refl _ _⟩ | exact Below.refl _ _
    ·obtain rfl:=Option.some.inj ho
     refine OpV.mono (R:=fun v w' => φM12 wc.heap.size go k gp b off ts.length cap i d.vT d.vA no 20 v w' ∧ Below W2.heap.size W2 w') ?_ (fun v w' h => ⟨h.1,hJ.step HNB.out.2.2.2 h.2 (rows_ne (li:=[16,23]) (ls:=[66,73]) rfl rfl (by decide) (by decide)) (by decide) (by decide) (by decide) v,RowsE.of h.2⟩)
     have h0:=slotv (hkn 69 (by decide):a.tmps.getD 69 undef = .pointer (some ⟨go,k * 5 + 4,none⟩))
     have hcc:=(HALL.out W2 _ _ hJ).2.1
     clear hkn ho
     simp only [OpV,execOp]
     simp [go_sem,h0,hcc]
     all_goals first | exact ⟨rfl,Below.refl _ _⟩ | exact Below.refl _ _
    ·obtain rfl:=Option.some.inj ho
     refine OpV.mono (R:=fun v w' => φM12 wc.heap.size go k gp b off ts.length cap i d.vT d.vA no 21 v w' ∧ Below W2.heap.size W2 w') ?_ (fun v w' h => ⟨h.1,hJ.step HNB.out.2.2.2 h.2 (rows_ne (li:=[16,23]) (ls:=[66,73]) rfl rfl (by decide) (by decide)) (by decide) (by decide) (by decide) v,RowsE.of h.2⟩)
     exact ⟨hkn 5 (by decide),Below.refl _ _⟩
    ·obtain rfl:=Option.some.inj ho
     refine OpV.mono (R:=fun v w' => φM12 wc.heap.size go k gp b off ts.length cap i d.vT d.vA no 22 v w' ∧ Below W2.heap.size W2 w') ?_ (fun v w' h => ⟨h.1,hJ.step HNB.out.2.2.2 h.2 (rows_ne (li:=[16,23]) (ls:=[66,73]) rfl rfl (by decide) (by decide)) (by decide) (by decide) (by decide) v,RowsE.of h.2⟩)
     have h0:=slotv (hkn 71 (by decide):a.tmps.getD 71 undef = .int .i64 (i:Nat))
     clear hkn ho
     simp only [OpV,execOp]
     simp [go_sem,h0]
     exact ⟨⟨W2.heap.size,rfl,hJ.rows.size,heap_alloc_new _ _⟩,new1 _⟩
    ·obtain rfl:=Option.some.inj ho
     have h1:a.tmps.getD 70 undef = d.vA:=hkn 70 (by decide)
     obtain ⟨bq,h2,hb0,hh⟩:TmpS wc.heap.size (a.tmps.getD 72 undef) #[.int .i64 (i:Nat)] 3 W2:=hkn 72 (by decide)
     refine OpV.mono (hJ.rows.app (t:=⟨23,73,d.vA,B,3,1,(ats k).length,cellsOf 1 fI (ats k),(ats k).length + 1,cellsOf 1 fI (ats k) ++ [.int .i64 (i:Nat)]⟩) (by simp [tsM12]) rfl (ready_not hr (by show (23:Nat) < L.size;rw [hLs];decide)) (by show (23:Nat) < L.size;rw [hLs];decide) (by show (73:Nat) < a.tmps.size;rw [hsN];decide) (rows_other (li:=[16,23]) (ls:=[66,73]) rfl rfl (by decide) (by decide) (by simp [tsM12])) (nodup_of_map (f:=RowT.i) (show ([16,23]:List Nat).Nodup by decide)) (HLT2.out) (.tmp 70) (.tmp 72) 22 rfl j0 (.int .i64 0) 8 Tryz.underlying22 HJ0.out hj0 hj1 hj2 rfl (show (0:Nat) < 1 by decide) (by simpa [Act.eval] using h1) bq #[.int .i64 (i:Nat)] 3 (by simpa [Act.eval] using h2) hh rfl (by simp [Value.oneCell']) rfl rfl (by have:=HLB.out;show (ats k).length ≤ _;omega) (by decide) (by have:=HNB.out;show B ≤ _;omega)) (fun v w' h => ⟨trivial,hJ.app h.1 (h.2.2 HNB.out.2.2.2 (HSEP.out.2.2.1)) (Or.inr ⟨rfl,by decide⟩),h.2.1⟩)
    ·obtain rfl:=Option.some.inj ho
     refine OpV.mono (R:=fun v w' => φM12 wc.heap.size go k gp b off ts.length cap i d.vT d.vA no 24 v w' ∧ Below W2.heap.size W2 w') ?_ (fun v w' h => ⟨h.1,hJ.step HNB.out.2.2.2 h.2 (rows_ne (li:=[16,23]) (ls:=[66,73]) rfl rfl (by decide) (by decide)) (by decide) (by decide) (by decide) v,RowsE.of h.2⟩)
     have h0:=slotv (hkn 50 (by decide):a.tmps.getD 50 undef = .pointer (some ⟨go,k * 5,none⟩))
     clear hkn ho
     simp only [OpV,execOp]
     simp [go_sem,h0]
     all_goals first | exact ⟨rfl,Below.refl _ _⟩ | exact Below.refl _ _
    ·obtain rfl:=Option.some.inj ho
     refine OpV.mono (R:=fun v w' => φM12 wc.heap.size go k gp b off ts.length cap i d.vT d.vA no 25 v w' ∧ Below W2.heap.size W2 w') ?_ (fun v w' h => ⟨h.1,hJ.step HNB.out.2.2.2 h.2 (rows_ne (li:=[16,23]) (ls:=[66,73]) rfl rfl (by decide) (by decide)) (by decide) (by decide) (by decide) v,RowsE.of h.2⟩)
     have h0:=slotv (hkn 74 (by decide):a.tmps.getD 74 undef = .pointer (some ⟨go,k * 5,none⟩))
     clear hkn ho
     simp only [OpV,execOp]
     simp [go_sem,h0]
     all_goals first | exact ⟨rfl,Below.refl _ _⟩ | exact Below.refl _ _
    ·obtain rfl:=Option.some.inj ho
     refine OpV.mono (R:=fun v w' => φM12 wc.heap.size go k gp b off ts.length cap i d.vT d.vA no 26 v w' ∧ Below W2.heap.size W2 w') ?_ (fun v w' h => ⟨h.1,hJ.step HNB.out.2.2.2 h.2 (rows_ne (li:=[16,23]) (ls:=[66,73]) rfl rfl (by decide) (by decide)) (by decide) (by decide) (by decide) v,RowsE.of h.2⟩)
     have h0:=slotv (hkn 75 (by decide):a.tmps.getD 75 undef = .pointer (some ⟨go,k * 5,none⟩))
     clear hkn ho
     simp only [OpV,execOp]
     simp [go_sem,h0]
     all_goals first | exact ⟨rfl,Below.refl _ _⟩ | exact Below.refl _ _
    ·obtain rfl:=Option.some.inj ho
     have h0:=slotv (hkn 76 (by decide):a.tmps.getD 76 undef = .pointer (some ⟨go,k * 5 + 2,none⟩))
     have h16:L.getD 16 false = true:=ready_on hr trivial ho ⟨16,.data⟩ (by simp) rfl
     obtain ⟨A66,c66,e66⟩:=tsM12_form hJ.rows h16
     obtain ⟨x66,hx66⟩:=HCEL.out W2 _ _ hJ
     have hnot:=ready_not hr (by show (27:Nat) < L.size;rw [hLs];decide)
     have hst:=hJ.store HNB.out.2.2.2 (fun t ht => by
      simp only [tsM12,List.mem_cons,List.not_mem_nil,or_false] at ht
      rcases ht with rfl | rfl
      ·exact HSEP.out.2.1
      ·exact HSEP.out.2.2.1) (fun t ht => by
      simp only [tsM12,List.mem_cons,List.not_mem_nil,or_false] at ht
      rcases ht with rfl | rfl
      ·show (16:Nat) ≠ 27;decide
      ·show (23:Nat) ≠ 27;decide) hnot (by show (27:Nat) < L.size;rw [hLs];decide) h16
     rw [e66] at hst
     have h1:=slotv e66
     refine OpV.mono (R:=fun v w' => w' = W2.setCell ⟨go,k * 5 + 2,none⟩ (.slice A66 ((nos k).length + 1) c66)) ?_ (fun v w' h => ⟨trivial,by rw [h];exact hst,by rw [h];exact RowsE.store HNB.out.2.2.2 _⟩)
     clear hkn ho hst
     simp only [OpV,execOp]
     simp [go_sem,h0,h1,hx66]
   ·intro yv W9 L9 hL9 hW9 hgt hφ
    have HKB9:=(HKB.out W9 _ _ hW9).2 (hL9 27 (by decide))
    have HBW9:=HBW.out W9 _ _ hW9
    rw [hgt 16 66 rfl] at HKB9
    obtain ⟨o1,o2,ap,l1,l2⟩:=tsM12_own hW9.rows (hL9 16 (by decide)) (hL9 23 (by decide)) (hgt 16 66 rfl) (hgt 23 73 rfl)
    have hsz9:=hW9.rows.size
    have hk9:=hW9.rows.keep
    have hφ1:yv 1 = .pointer (some ⟨go,k * 5,none⟩):=by
     rcases hφ 1 (by decide) with h | h
     ·exact h
     ·exact absurd h.1 (by decide)
    obtain ⟨A23,c23,e23,_⟩:=Orow.slice (show Orow W9 B 3 1 fI (yv 23) (ats k ++ [(i:Int)]) from Orow.snoc (n:=0) o2 rfl)
    have ho1:Orow W9 B 3 1 fI (yv 16) (nos k ++ [no]):=Orow.snoc (n:=0) o1 rfl
    have ho2:Orow W9 B 3 1 fI (yv 23) (ats k ++ [(i:Int)]):=Orow.snoc (n:=0) o2 rfl
    have x9:∃ x,W9.cell? ⟨go,k * 5 + 4,none⟩ = some x:=⟨_,HKB9.cell k 4 (by simpa using hkm) (by omega)⟩
    have f9:=HKB9.frozen (k * 5 + 4)
    have hbg:∀ g,(yv 16).ownBlock = some g → g ≠ go:=fun g hg e => by
     have h1:=HNB.out
     rcases l1 with l1 | ⟨q,l1,hq⟩
     ·exact HSEP.out.2.1 (by rw [← l1,hg,e])
     ·rw [l1] at hg;injection hg with hg;omega
    have hbg2:∀ g,(yv 23).ownBlock = some g → g ≠ go:=fun g hg e => by
     have h1:=HNB.out
     rcases l2 with l2 | ⟨q,l2,hq⟩
     ·exact HSEP.out.2.2.1 (by rw [← l2,hg,e])
     ·rw [l2] at hg;injection hg with hg;omega
    have MS2:Hid (MS w B (ms.set k { d with vT:=yv 16,vA:=yv 23 }) (fun q => if q = k then nos k ++ [no] else nos q) idss (fun q => if q = k then ats k ++ [(i:Int)] else ats q) (.slice (some ⟨go,0,none⟩) ms.length capo) (W9.setCell ⟨go,k * 5 + 4,none⟩ (yv 23))):=by
     have h1:=HNB.out
     have hd:=HD.out
     obtain ⟨og,hog⟩:∃ og,wc.heap[go]? = some og:=⟨_,HBLK.out⟩
     have b4:=HKB9.upd k 4 (by simpa using hkm) (by decide) (d':={ ms[k] with vT:=yv 16,vA:=yv 23 }) (x:=yv 23) rfl (fun q hq hne => by
      rw [List.getElem_set_self,hd]
      match q,hq,hne with
      | 0,_,_ => rfl
      | 1,_,_ => rfl
      | 2,_,_ => rfl
      | 3,_,_ => rfl
      | 4,_,hne => exact absurd rfl hne)
     rw [List.set_set] at b4
     have:=HS.out.st.twoG hkm rfl hcapo hcm hBgo HREST.out (W':=ChangeMaps.setBlock W9 go og) (v1:=yv 16) (v2:=yv 23) (l1:=nos k ++ [no]) (l2:=ats k ++ [(i:Int)]) (fun g g1 g2 g3 g4 => by
      by_cases e:g = go
      ·subst e
       rw [setBlock_at _ (Nat.lt_of_lt_of_le g1 hsz9),hog]
      ·rw [back_other e]
       refine hk9 g g1 e (fun t ht => ?_)
       simp only [tsM12,List.mem_cons,List.not_mem_nil,or_false] at ht
       rcases ht with rfl | rfl
       ·show d.vT.ownBlock ≠ some g;rw [hd];exact g3
       ·show d.vA.ownBlock ≠ some g;rw [hd];exact g4) (ownsRow_heap ho1 (fun g hg => back_other (hbg g hg))) (ownsRow_heap ho2 (fun g hg => back_other (hbg2 g hg))) (by rw [← hd];exact l1) (by rw [← hd];exact l2) ap (W'':=W9.setCell ⟨go,k * 5 + 4,none⟩ (yv 23)) (grown_setC grown_back _ _) b4 ((HBEL.out.trans HBW9).setCell (p:=⟨go,k * 5 + 4,none⟩) (by show w.heap.size ≤ go;omega) _)
     rw [← hd] at this
     exact this
    have HKEEP:Hid (∀ g,g < B → (W9.setCell ⟨go,k * 5 + 4,none⟩ (yv 23)).heap[g]? = wc.heap[g]?):=fun g hg => by
     have h1:=HNB.out
     refine (Below.heap_setCell W9 ⟨go,k * 5 + 4,none⟩ _ g (by show g ≠ go;omega)).trans (hk9 g (by omega) (by omega) (fun t ht c => ?_))
     simp only [tsM12,List.mem_cons,List.not_mem_nil,or_false] at ht
     rcases ht with rfl | rfl
     ·have:=(HRT.out.lt c).1;omega
     ·have:=(HRA.out.lt c).1;omega
    have HSZ:Hid (wc.heap.size ≤ (W9.setCell ⟨go,k * 5 + 4,none⟩ (yv 23)).heap.size):=by show _ ≤ _;simpa [World.setCell] using hsz9
    obtain ⟨x9,hx9⟩:=x9
    rw [e23] at MS2 HKEEP HSZ
    generalize hy16:yv 16 = v16 at MS2
    clear hy16 HKB9 HBW9 o1 o2 ap l1 l2 hsz9 hk9 ho1 ho2 hbg hbg2 hW9 hL9 hgt hφ HALL HCEL HKB HBW HLT1 HLT2 HRT HRA HSEP
    simp only [List.drop_succ_cons,List.drop_zero,List.take_succ_cons,List.take_zero,putAll,Nat.reduceAdd,hφ1,e23]
    clear hφ1 e23
    go_upto_region 13 with (fail)
    generalize hl23:(ats k ++ [(i:Int)]).length = l23 at *
    have hl24:l23 = (ats k).length + 1:=by rw [← hl23];simp
    subst hl24
    clear hl23
    generalize W9.setCell ⟨go,k * 5 + 4,none⟩ (.slice A23 ((ats k).length + 1) c23) = Wc at *
    clear hx9 f9
    have hkm2:k < (ms.set k { d with vT:=v16,vA:=.slice A23 ((ats k).length + 1) c23 }).length:=by simpa using hkm
    have hvI:(ms.set k { d with vT:=v16,vA:=.slice A23 ((ats k).length + 1) c23 })[k].vI = d.vI:=by rw [List.getElem_set_self]
    have hkeyM:∀ q (h1:q < ms.length) (h2:q < (ms.set k { d with vT:=v16,vA:=.slice A23 ((ats k).length + 1) c23 }).length),(ms.set k { d with vT:=v16,vA:=.slice A23 ((ats k).length + 1) c23 })[q].key = ms[q].key:=fun q h1 h2 => by
     rw [List.getElem_set]
     split
     ·next e => subst e;rw [HD.out]
     ·rfl
    have hlenM:(ms.set k { d with vT:=v16,vA:=.slice A23 ((ats k).length + 1) c23 }).length = ms.length:=List.length_set
    have HKEYM:=Lib.hid hkeyM
    obtain ⟨ms2,hms2⟩:∃ ms2,ms2 = ms.set k { d with vT:=v16,vA:=.slice A23 ((ats k).length + 1) c23 }:=⟨_,rfl⟩
    have HKEY2:Hid (∀ q (h1:q < ms.length) (h2:q < ms2.length),ms2[q].key = ms[q].key):=by subst hms2;exact hkeyM
    have HLEN2:Hid (ms2.length = ms.length):=by subst hms2;exact hlenM
    have hvI2:∀ (h:k < ms2.length),ms2[k].vI = d.vI:=by subst hms2;intro h;exact hvI
    rw [← hms2] at MS2 hkm2
    have HVI2:=Lib.hid hvI2
    clear hms2 hvI hkeyM HKEYM hlenM hvI2
    obtain ⟨go2,cap2,rest2,hve,hcap2,hB2,hgo2,hcm2,hblk2,hrest2⟩:=MS2.out.blk (by omega)
    have hve2:go2 = go ∧ cap2 = capo:=by injection hve with e1 e2 e3;injection e1 with e1;injection e1 with e1;exact ⟨e1.symm,e3.symm⟩
    obtain ⟨rfl,rfl⟩:=hve2
    have HVE:Hid (Value.slice (some ⟨go2,0,none⟩) ms.length cap2 = .slice (some ⟨go2,0,none⟩) ms2.length cap2):=by show _ = _;rw [HLEN2.out]
    have HBLK2:=Lib.hid hblk2
    have HREST2:=Lib.hid hrest2
    have HRI:Hid (Orow Wc B 36 2 fId d.vI (idss k)):=by have:=MS2.out.rowI hkm2;rw [HVI2.out hkm2] at this;exact this
    have HSEP2:Hid (d.vI.ownBlock ≠ some go2):=by have:=(MS2.out.sepOut hkm2 rfl).2.2;rw [HVI2.out hkm2] at this;exact this
    have HNB2:Hid (B ≤ Wc.heap.size ∧ w.heap.size ≤ B ∧ B ≤ go2 ∧ go2 < Wc.heap.size):=by have h1:=HNB.out;have h2:=HSZ.out;show _ ∧ _;omega
    obtain ⟨bi,oi,hia,_,_⟩:=HTI.out.at_ (HIN.out _ MS2.out.bel) HTF.out.2.1 (by omega)
    have HTIA:=Lib.hid hia
    obtain ⟨ln,hln⟩:∃ ln,ln = ts[i].ids.length:=⟨_,rfl⟩
    obtain ⟨ic,hic⟩:∃ ic,ic = ts[i].ic:=⟨_,rfl⟩
    have HLN:=Lib.hid hln
    have HIC:=Lib.hid hic
    clear hve hblk2 hrest2 hia hln hic
    have HALL2:Hid (∀ W2 L a,RowsJ Wc (tsM13 d.vI B (idss k).length ln (cellsOf 2 fId (idss k)) (cellsOf 2 fId (idss k) ++ cellsOf 2 fId ts[i].ids)) L a W2 → W2.cell? ⟨go2,k * 5 + 3,none⟩ = some d.vI ∧ W2.cell? ⟨gp,4,none⟩ = some (.slice (some ⟨b,off,none⟩) ts.length cap) ∧ W2.cell? ⟨b,off + i * 5 + 3,none⟩ = some (.slice (some ⟨bi,oi,none⟩) ln ic) ∧ (∀ j u,(cellsOf 2 fId ts[i].ids)[j]? = some u → W2.cell? ((⟨bi,oi,none⟩:Addr).add j) = some u) ∧ KBlk W2 go2 121 5 fMem ms2 rest2 ∧ Below w.heap.size Wc W2):=by
     intro W2 L a hJ
     have h1:=HNB2.out
     have hgo:W2.heap[go2]? = Wc.heap[go2]?:=hJ.keep go2 h1.2.2.2 (fun t ht => by
      simp only [tsM13,List.mem_singleton] at ht
      subst ht
      exact HSEP2.out)
     have hkb:KBlk W2 go2 121 5 fMem ms2 rest2:=hgo.trans HBLK2.out
     have hbw:Below w.heap.size Wc W2:=hJ.below (by omega) (fun t ht g hg => by
      simp only [tsM13,List.mem_singleton] at ht
      subst ht
      have:=(HRI.out.lt hg).1
      omega)
     have hin:=HIN.out _ (MS2.out.bel.trans hbw)
     refine ⟨?_,cell_h (hin gp _ HG.out.obj) 4 rfl,?_,?_,hkb,hbw⟩
     ·have:=hkb.cell k 3 hkm2 (by omega)
      rw [show fMem ms2[k] 3 = ms2[k].vI from rfl,HVI2.out hkm2] at this
      exact this
     ·have:=HTC.out W2 hin 3 (by omega)
      rw [HLN.out,HIC.out,← HTIA.out]
      exact this
     ·intro j u hu
      have hjl:j < ts[i].ids.length * 2:=by have:=(List.getElem?_eq_some_iff.1 hu).1;rwa [cellsOf_len] at this
      have h5:=cellsOf_get 2 fId ts[i].ids (j / 2) (j % 2) (by omega) (Nat.mod_lt _ (by omega))
      rw [Nat.div_add_mod' j 2,hu] at h5
      obtain ⟨bj,oj,e,_,hcj⟩:=HTI.out.at_ hin (i:=j / 2) (by omega) (by omega)
      rw [HTIA.out] at e
      injection e with e
      injection e with e1 e2
      subst e1 e2
      have h6:=hcj (j % 2) (Nat.mod_lt _ (by omega))
      rw [Addr.add_lit,show oi + j = oi + j / 2 * 2 + j % 2 from by omega,h6]
      exact h5.symm
    have HLT3:Hid (∀ g,d.vI.ownBlock = some g → g < Wc.heap.size):=fun g hg => (HRI.out.lt hg).2
    have HROWS:Hid (∀ t ∈ tsM13 d.vI B (idss k).length ln (cellsOf 2 fId (idss k)) (cellsOf 2 fId (idss k) ++ cellsOf 2 fId ts[i].ids),Wc.ownsRow t.B t.T t.k t.v t.n t.xs):=fun t ht => by
     simp only [tsM13,List.mem_singleton] at ht
     subst ht
     exact HRI.out
    have HAPT:Hid ((tsM13 d.vI B (idss k).length ln (cellsOf 2 fId (idss k)) (cellsOf 2 fId (idss k) ++ cellsOf 2 fId ts[i].ids)).Pairwise fun t u => apart t.v u.v):=by
     show List.Pairwise _ _
     simp only [tsM13]
     exact List.pairwise_singleton _ _
    have HLI:Hid (ln ≤ 20):=by have:=HTF.out.2.2;have:=HLN.out;show _ ≤ _;omega
    refine wp_region_concV 15 124 (φM13 Wc.heap.size go2 k gp b off ts.length cap i d.vI ⟨bi,oi,none⟩ ln ic) (RowsJ Wc (tsM13 d.vI B (idss k).length ln (cellsOf 2 fId (idss k)) (cellsOf 2 fId (idss k) ++ cellsOf 2 fId ts[i].ids))) (RowsE Wc) (by kernel_rfl) (by kernel_rfl) (by rfl) (RowsJ.start HROWS.out HAPT.out _ _) (fun i x w w' _ e h => φM13_mono i x w w' e h) (fun i x w hi e _ => absurd e (by have hcs:i = 0 ∨ i = 1 ∨ i = 2 ∨ i = 3 ∨ i = 4 ∨ i = 5 ∨ i = 6 ∨ i = 7 ∨ i = 8 ∨ i = 9 ∨ i = 10 ∨ i = 11 ∨ i = 12 ∨ i = 13 ∨ i = 14:=(by omega);rcases hcs with rfl | rfl | rfl | rfl | rfl | rfl | rfl | rfl | rfl | rfl | rfl | rfl | rfl | rfl | rfl <;> decide)) ?_ ?_
    ·intro n o hn ho a W2 L hr hsN hLs hJ hkn
     replace hsN:a.tmps.size = 124:=hsN
     have hcs:n = 0 ∨ n = 1 ∨ n = 2 ∨ n = 3 ∨ n = 4 ∨ n = 5 ∨ n = 6 ∨ n = 7 ∨ n = 8 ∨ n = 9 ∨ n = 10 ∨ n = 11 ∨ n = 12 ∨ n = 13 ∨ n = 14:=by omega
     rcases hcs with rfl | rfl | rfl | rfl | rfl | rfl | rfl | rfl | rfl | rfl | rfl | rfl | rfl | rfl | rfl
     ·obtain rfl:=Option.some.inj ho
      refine OpV.mono (R:=fun v w' => φM13 Wc.heap.size go2 k gp b off ts.length cap i d.vI ⟨bi,oi,none⟩ ln ic 0 v w' ∧ Below W2.heap.size W2 w') ?_ (fun v w' h => ⟨h.1,hJ.step h.2 (rows_ne (li:=[14]) (ls:=[93]) rfl rfl (by decide) (by decide)) v,RowsE.of h.2⟩)
      exact ⟨hkn 9 (by decide),Below.refl _ _⟩
     ·obtain rfl:=Option.some.inj ho
      refine OpV.mono (R:=fun v w' => φM13 Wc.heap.size go2 k gp b off ts.length cap i d.vI ⟨bi,oi,none⟩ ln ic 1 v w' ∧ Below W2.heap.size W2 w') ?_ (fun v w' h => ⟨h.1,hJ.step h.2 (rows_ne (li:=[14]) (ls:=[93]) rfl rfl (by decide) (by decide)) v,RowsE.of h.2⟩)
      exact ⟨hkn 9 (by decide),Below.refl _ _⟩
     ·obtain rfl:=Option.some.inj ho
      refine OpV.mono (R:=fun v w' => φM13 Wc.heap.size go2 k gp b off ts.length cap i d.vI ⟨bi,oi,none⟩ ln ic 2 v w' ∧ Below W2.heap.size W2 w') ?_ (fun v w' h => ⟨h.1,hJ.step h.2 (rows_ne (li:=[14]) (ls:=[93]) rfl rfl (by decide) (by decide)) v,RowsE.of h.2⟩)
      have h0:=slotv (hkn 80 (by decide):a.tmps.getD 80 undef = .pointer (some ⟨go2,k * 5,none⟩))
      clear hkn ho
      simp only [OpV,execOp]
      simp [go_sem,h0]
      all_goals first | exact ⟨rfl,Below.refl _ _⟩ | exact Below.refl _ _
     ·obtain rfl:=Option.some.inj ho
      refine OpV.mono (R:=fun v w' => φM13 Wc.heap.size go2 k gp b off ts.length cap i d.vI ⟨bi,oi,none⟩ ln ic 3 v w' ∧ Below W2.heap.size W2 w') ?_ (fun v w' h => ⟨h.1,hJ.step h.2 (rows_ne (li:=[14]) (ls:=[93]) rfl rfl (by decide) (by decide)) v,RowsE.of h.2⟩)
      have h0:=slotv (hkn 81 (by decide):a.tmps.getD 81 undef = .pointer (some ⟨go2,k * 5,none⟩))
      clear hkn ho
      simp only [OpV,execOp]
      simp [go_sem,h0]
      all_goals first | exact ⟨rfl,Below.refl _ _⟩ | exact Below.refl _ _
     ·obtain rfl:=Option.some.inj ho
      refine OpV.mono (R:=fun v w' => φM13 Wc.heap.size go2 k gp b off ts.length cap i d.vI ⟨bi,oi,none⟩ ln ic 4 v w' ∧ Below W2.heap.size W2 w') ?_ (fun v w' h => ⟨h.1,hJ.step h.2 (rows_ne (li:=[14]) (ls:=[93]) rfl rfl (by decide) (by decide)) v,RowsE.of h.2⟩)
      have h0:=slotv (hkn 82 (by decide):a.tmps.getD 82 undef = .pointer (some ⟨go2,k * 5,none⟩))
      clear hkn ho
      simp only [OpV,execOp]
      simp [go_sem,h0]
      all_goals first | exact ⟨rfl,Below.refl _ _⟩ | exact Below.refl _ _
     ·obtain rfl:=Option.some.inj ho
      refine OpV.mono (R:=fun v w' => φM13 Wc.heap.size go2 k gp b off ts.length cap i d.vI ⟨bi,oi,none⟩ ln ic 5 v w' ∧ Below W2.heap.size W2 w') ?_ (fun v w' h => ⟨h.1,hJ.step h.2 (rows_ne (li:=[14]) (ls:=[93]) rfl rfl (by decide) (by decide)) v,RowsE.of h.2⟩)
      have h0:=slotv (hkn 83 (by decide):a.tmps.getD 83 undef = .pointer (some ⟨go2,k * 5 + 3,none⟩))
      have hcc:=(HALL2.out W2 _ _ hJ).1
      clear hkn ho
      simp only [OpV,execOp]
      simp [go_sem,h0,hcc]
      all_goals first | exact ⟨rfl,Below.refl _ _⟩ | exact Below.refl _ _
     ·obtain rfl:=Option.some.inj ho
      refine OpV.mono (R:=fun v w' => φM13 Wc.heap.size go2 k gp b off ts.length cap i d.vI ⟨bi,oi,none⟩ ln ic 6 v w' ∧ Below W2.heap.size W2 w') ?_ (fun v w' h => ⟨h.1,hJ.step h.2 (rows_ne (li:=[14]) (ls:=[93]) rfl rfl (by decide) (by decide)) v,RowsE.of h.2⟩)
      exact ⟨hkn 0 (by decide),Below.refl _ _⟩
     ·obtain rfl:=Option.some.inj ho
      refine OpV.mono (R:=fun v w' => φM13 Wc.heap.size go2 k gp b off ts.length cap i d.vI ⟨bi,oi,none⟩ ln ic 7 v w' ∧ Below W2.heap.size W2 w') ?_ (fun v w' h => ⟨h.1,hJ.step h.2 (rows_ne (li:=[14]) (ls:=[93]) rfl rfl (by decide) (by decide)) v,RowsE.of h.2⟩)
      have h0:=slotv (hkn 85 (by decide):a.tmps.getD 85 undef = .pointer (some ⟨gp,0,none⟩))
      clear hkn ho
      simp only [OpV,execOp]
      simp [go_sem,h0]
      all_goals first | exact ⟨rfl,Below.refl _ _⟩ | exact Below.refl _ _
     ·obtain rfl:=Option.some.inj ho
      refine OpV.mono (R:=fun v w' => φM13 Wc.heap.size go2 k gp b off ts.length cap i d.vI ⟨bi,oi,none⟩ ln ic 8 v w' ∧ Below W2.heap.size W2 w') ?_ (fun v w' h => ⟨h.1,hJ.step h.2 (rows_ne (li:=[14]) (ls:=[93]) rfl rfl (by decide) (by decide)) v,RowsE.of h.2⟩)
      have h0:=slotv (hkn 86 (by decide):a.tmps.getD 86 undef = .pointer (some ⟨gp,0,none⟩))
      clear hkn ho
      simp only [OpV,execOp]
      simp [go_sem,h0]
      all_goals first | exact ⟨rfl,Below.refl _ _⟩ | exact Below.refl _ _
     ·obtain rfl:=Option.some.inj ho
      refine OpV.mono (R:=fun v w' => φM13 Wc.heap.size go2 k gp b off ts.length cap i d.vI ⟨bi,oi,none⟩ ln ic 9 v w' ∧ Below W2.heap.size W2 w') ?_ (fun v w' h => ⟨h.1,hJ.step h.2 (rows_ne (li:=[14]) (ls:=[93]) rfl rfl (by decide) (by decide)) v,RowsE.of h.2⟩)
      have h0:=slotv (hkn 87 (by decide):a.tmps.getD 87 undef = .pointer (some ⟨gp,4,none⟩))
      have hcc:=(HALL2.out W2 _ _ hJ).2.1
      clear hkn ho
      simp only [OpV,execOp]
      simp [go_sem,h0,hcc]
      all_goals first | exact ⟨rfl,Below.refl _ _⟩ | exact Below.refl _ _
     ·obtain rfl:=Option.some.inj ho
      refine OpV.mono (R:=fun v w' => φM13 Wc.heap.size go2 k gp b off ts.length cap i d.vI ⟨bi,oi,none⟩ ln ic 10 v w' ∧ Below W2.heap.size W2 w') ?_ (fun v w' h => ⟨h.1,hJ.step h.2 (rows_ne (li:=[14]) (ls:=[93]) rfl rfl (by decide) (by decide)) v,RowsE.of h.2⟩)
      exact ⟨hkn 5 (by decide),Below.refl _ _⟩
     ·obtain rfl:=Option.some.inj ho
      refine OpV.mono (R:=fun v w' => φM13 Wc.heap.size go2 k gp b off ts.length cap i d.vI ⟨bi,oi,none⟩ ln ic 11 v w' ∧ Below W2.heap.size W2 w') ?_ (fun v w' h => ⟨h.1,hJ.step h.2 (rows_ne (li:=[14]) (ls:=[93]) rfl rfl (by decide) (by decide)) v,RowsE.of h.2⟩)
      have h0:=slotv (hkn 88 (by decide):a.tmps.getD 88 undef = .slice (some ⟨b,off,none⟩) ts.length cap)
      have h1:=slotv (hkn 89 (by decide):a.tmps.getD 89 undef = .int .i64 (i:Nat))
      clear hkn ho
      simp only [OpV,execOp]
      simp [go_sem,h0,h1,hlt]
      all_goals first | exact ⟨rfl,Below.refl _ _⟩ | exact Below.refl _ _
     ·obtain rfl:=Option.some.inj ho
      refine OpV.mono (R:=fun v w' => φM13 Wc.heap.size go2 k gp b off ts.length cap i d.vI ⟨bi,oi,none⟩ ln ic 12 v w' ∧ Below W2.heap.size W2 w') ?_ (fun v w' h => ⟨h.1,hJ.step h.2 (rows_ne (li:=[14]) (ls:=[93]) rfl rfl (by decide) (by decide)) v,RowsE.of h.2⟩)
      have h0:=slotv (hkn 90 (by decide):a.tmps.getD 90 undef = .pointer (some ⟨b,off + i * 5,none⟩))
      clear hkn ho
      simp only [OpV,execOp]
      simp [go_sem,h0]
      all_goals first | exact ⟨rfl,Below.refl _ _⟩ | exact Below.refl _ _
     ·obtain rfl:=Option.some.inj ho
      refine OpV.mono (R:=fun v w' => φM13 Wc.heap.size go2 k gp b off ts.length cap i d.vI ⟨bi,oi,none⟩ ln ic 13 v w' ∧ Below W2.heap.size W2 w') ?_ (fun v w' h => ⟨h.1,hJ.step h.2 (rows_ne (li:=[14]) (ls:=[93]) rfl rfl (by decide) (by decide)) v,RowsE.of h.2⟩)
      have h0:=slotv (hkn 91 (by decide):a.tmps.getD 91 undef = .pointer (some ⟨b,off + i * 5 + 3,none⟩))
      have hcc:=(HALL2.out W2 _ _ hJ).2.2.1
      clear hkn ho
      simp only [OpV,execOp]
      simp [go_sem,h0,hcc]
      all_goals first | exact ⟨rfl,Below.refl _ _⟩ | exact Below.refl _ _
     ·obtain rfl:=Option.some.inj ho
      have h1:a.tmps.getD 84 undef = d.vI:=hkn 84 (by decide)
      have h2:a.tmps.getD 92 undef = .slice (some ⟨bi,oi,none⟩) ln ic:=hkn 92 (by decide)
      have hnw:=(HALL2.out W2 _ _ hJ).2.2.2.1
      refine OpV.mono (hJ.apps (t:=⟨14,93,d.vI,B,36,2,(idss k).length,cellsOf 2 fId (idss k),(idss k).length + ln,cellsOf 2 fId (idss k) ++ cellsOf 2 fId ts[i].ids⟩) (by simp [tsM13]) rfl (ready_not hr (by show (14:Nat) < L.size;rw [hLs];decide)) (by show (14:Nat) < L.size;rw [hLs];decide) (by show (93:Nat) < a.tmps.size;rw [hsN];decide) (rows_other (li:=[14]) (ls:=[93]) rfl rfl (by decide) (by decide) (by simp [tsM13])) (nodup_of_map (f:=RowT.i) (show ([14]:List Nat).Nodup by decide)) (HLT3.out) (.tmp 84) (.tmp 92) 40 rfl y0 (.agg #[.int .i64 0,.string ⟨#[]⟩]) 24 Tryz.underlying40 HY0.out hy0 hy1 hy2 rfl (show (0:Nat) < 2 by decide) (by simpa [Act.eval] using h1) ⟨bi,oi,none⟩ ln ic (cellsOf 2 fId ts[i].ids) (by simpa [Act.eval] using h2) (by rw [cellsOf_len,HLN.out]) hnw (fun u hu => by
       unfold cellsOf at hu
       obtain ⟨x,_,hx⟩:=List.mem_flatMap.1 hu
       obtain ⟨q,_,rfl⟩:=List.mem_map.1 hx
       exact fId_one x q) rfl rfl (by have h1:=HLB.out.2.2;have h2:=HLI.out;show (idss k).length + ln ≤ _;omega) (by decide) (by have:=HNB2.out;show B ≤ _;omega)) (fun v w' h => ⟨trivial,h.1,h.2⟩)
    ·intro yu W8 L8 hL8 hW8 hgu hψ
     obtain ⟨p1,l1⟩:=tsM13_own hW8 (hL8 14 (by decide)) (hgu 14 93 rfl)
     have hψ0:yu 0 = .pointer (some ⟨go2,k * 5,none⟩):=by
      rcases hψ 0 (by decide) with h | h
      ·exact h
      ·exact absurd h.1 (by decide)
     obtain ⟨-,-,-,-,hk8,hb8⟩:=HALL2.out W8 _ _ hW8
     have hor:Orow W8 B 36 2 fId (yu 14) (idss k ++ ts[i].ids):=by
      show W8.ownsRow B _ 2 _ _ _
      rw [List.length_append,← HLN.out,show cellsOf 2 fId (idss k ++ ts[i].ids) = cellsOf 2 fId (idss k) ++ cellsOf 2 fId ts[i].ids from cellsOf_split _ _ _ _]
      exact p1
     obtain ⟨A14,c14,e14,_⟩:=hor.slice
     have MS3:Hid (MS w B (ms2.set k { ms2[k] with vI:=yu 14 }) (fun q => if q = k then nos k ++ [no] else nos q) (fun q => if q = k then idss k ++ ts[i].ids else idss q) (fun q => if q = k then ats k ++ [(i:Int)] else ats q) (.slice (some ⟨go2,0,none⟩) ms.length cap2) (W8.setCell ⟨go2,k * 5 + 3,none⟩ (yu 14))):=by
      have h1:=HNB2.out
      have h2:=HLEN2.out
      exact MS2.out.one hkm2 HVE.out (by omega) hcm2 hB2 HREST2.out hk8 (fun g g1 g2 g3 => hW8.keep g g1 (fun t ht => by
       simp only [tsM13,List.mem_singleton] at ht
       subst ht
       show d.vI.ownBlock ≠ some g
       rw [← HVI2.out hkm2];exact g3)) hor (by rw [HVI2.out hkm2];exact l1) (MS2.out.bel.trans hb8)
     have hx8:=hk8.cell k 3 hkm2 (by omega)
     have f8:=hk8.frozen (k * 5 + 3)
     have LXN:Hid (LX w B gr bp ts.length (i + 1) (JD r ts) ts rep (rts rep (i + 1)) (i + 1) (.slice (some ⟨go2,0,none⟩) ms.length cap2) (W8.setCell ⟨go2,k * 5 + 3,none⟩ (yu 14))):=by
      have h1:=HNB2.out
      have hS:=HS.out
      have hrk:(rts rep (i + 1))[k] = rep i:=by have:=HA1.out;unfold AtRoot at this;rw [List.getElem?_eq_getElem hkr] at this;exact Option.some.inj this
      have hkeep:∀ g,g < B → (W8.setCell ⟨go2,k * 5 + 3,none⟩ (yu 14)).heap[g]? = wc.heap[g]?:=fun g hg => by
       refine (Below.heap_setCell W8 ⟨go2,k * 5 + 3,none⟩ _ g (by show g ≠ go2;omega)).trans ((hW8.keep g (by omega) (fun t ht c => ?_)).trans (HKEEP.out g hg))
       simp only [tsM13,List.mem_singleton] at ht
       subst ht
       have:=(HRI.out.lt c).1
       omega
      have hmc:=hS.mc.add (rts_nodup rep (i + 1)) hkr hrk (ms':=ms2.set k { ms2[k] with vI:=yu 14 }) (by rw [List.length_set];exact HLEN2.out) (fun q h1 h2 => by
       rw [List.getElem_set]
       split
       ·next e => subst e;exact HKEY2.out _ h1 _
       ·exact HKEY2.out q h1 _)
      rw [HTA.out,← HNO.out] at hmc
      obtain ⟨l1,l2,l3,l4,l5,l6⟩:=hS.lt
      refine ⟨_,_,_,_,cnt,pm,MS3.out,hmc,hS.mp.block (hkeep bp l2),hS.cl,hS.pmm,(hkeep gr l1).trans hS.row,l1,l2,l3,l4,l5,?_⟩
      have h2:=hW8.size
      simp only [World.setCell,Array.size_modify]
      omega
     rw [e14] at LXN
     clear p1 l1 hk8 hb8 hor MS3 hW8 hL8 hgu hψ HALL2 HLT3 HRI HSEP2
     simp only [List.drop_succ_cons,List.drop_zero,List.take_succ_cons,List.take_zero,putAll,Nat.reduceAdd,hψ0,e14]
     clear hψ0 e14
     have LXM:Hid (LX w B gr bp ts.length (i + 1) (JD r ts) ts rep (rts rep (i + 1)) (i + 1) (.slice (some ⟨go2,0,none⟩) ms.length cap2) (W8.setCell ⟨go2,k * 5 + 3,none⟩ (.slice A14 ((idss k).length + ts[i].ids.length) c14))):=by rw [List.length_append] at LXN;exact LXN
     clear LXN
     go_wp2_with fail
     exact ⟨⟨i + 1,by omega,rfl,LXM⟩,by show ts.length - (i + 1) < ts.length - i;omega⟩
  ·obtain rfl:i = ts.length:=by omega
   obtain ⟨ms,nos,idss,ats,cnt,pm,hS⟩:=J.out
   clear J hlt hi
   obtain ⟨A2,c2,hvo,hlc2⟩:=hS.st.out.slice
   have hmsl:ms.length ≤ 100000:=by have h1:=hS.mc.len;have h2:=rts_le rep ts.length;omega
   have LY0:Hid (LY w B ms nos idss ats 0 _ wr):=⟨ms,idss,hS.st,rfl,fun q _ _ => rfl,fun q h => absurd h (by omega),fun q _ => rfl⟩
   have HMC:=Lib.hid hS.mc
   have HIL:Hid (∀ k,k < ms.length → (idss k).length ≤ 1000000):=fun k hk => by
    have hk2:k < (rts rep ts.length).length:=by rw [← hS.mc.len];exact hk
    have h1:=cls_le rep ts.length (rts rep ts.length)[k]
    rw [hS.mc.ids k hk2]
    refine Nat.le_trans (flatMap_le (m:=20) _ _ fun q hq => ?_) (show (cls rep ts.length (rts rep ts.length)[k]).length * 20 ≤ 1000000 by omega)
    have hq2:q < ts.length:=by unfold cls at hq;exact List.mem_range.1 (List.mem_filter.1 hq).1
    rw [tAt_lt hq2]
    exact (HFIT.out _ (List.getElem_mem _)).2.2
   have HBS:Hid (w.heap.size ≤ B):=hS.st.ge
   clear hS HKO HPA HIN HG HB1 HREP HIDM HFIT
   subst hvo
   go_wp2_with fail
   go_loopw [100] (fun t wr => ∃ k:Nat,k ≤ ms.length ∧ t = .int .i64 k ∧ Hid (LY w B ms nos idss ats k (.slice A2 ms.length c2) wr)) (fun t _ => ms.length - (intOf t).toNat)
   case atStart => exact ⟨0,by omega,rfl,LY0⟩
   case round =>
    obtain ⟨k,hk,rfl,J⟩:=hrel
    clear LY0
    by_cases hlt:k < ms.length
    ·obtain ⟨ms',ids',hM,hl',hkey,h1,h2⟩:=J.out
     clear J
     have hkm:k < ms'.length:=by omega
     obtain ⟨go,cap2,rest,hve,hcap,hBgo,hgos,hcm,hblk,hrest⟩:=hM.blk (by omega)
     have e1:A2 = some ⟨go,0,none⟩ ∧ c2 = cap2:=by injection hve with e1 e2 e3;exact ⟨e1,e3⟩
     obtain ⟨rfl,rfl⟩:=e1
     have HV3:=Lib.hid hve
     have HRI:Hid (Orow wr B 36 2 fId ms'[k].vI (idss k)):=by have:=hM.rowI hkm;rw [h2 k (Nat.le_refl _)] at this;exact this
     have HSEP:Hid (ms'[k].vI.ownBlock ≠ some go):=(hM.sepOut hkm rfl).2.2
     have hc0:=hblk.cell k 3 hkm (by omega)
     rw [show fMem ms'[k] 3 = ms'[k].vI from rfl] at hc0
     obtain ⟨vi,hvi⟩:∃ vi,vi = ms'[k].vI:=⟨_,rfl⟩
     rw [← hvi] at hc0 HRI HSEP
     have HVI:=Lib.hid hvi
     have HM:=Lib.hid hM
     have HBLK:=Lib.hid hblk
     have HL1:=Lib.hid hl'
     have HKEY:=Lib.hid hkey
     have HD1:=Lib.hid h1
     have HD2:=Lib.hid h2
     have HREST:=Lib.hid hrest
     have HCAP:Hid (ms.length ≤ c2 ∧ c2 ≤ maxLen ∧ B ≤ go ∧ go < wr.heap.size):=by show _ ∧ _;omega
     clear hve hvi hM hblk hl' hkey h1 h2 hrest hcap hcm hBgo hgos
     have hlt2:(k:Int) < ms.length:=by omega
     go_wp2_with fail
     refine (sortFunc_Id idCmp idCmp_ok 66 #[] (fun _ _ => by kernel_rfl) (fun W a b => compareIds_g a b W) B vi (idss k) wr HRI.out (HIL.out k hlt)).mono ?_
     rintro e w1 ⟨rfl,ds,hp,hs,ho,hg⟩
     have HO1:=Lib.hid ho
     have HG1:=Lib.hid hg
     have HIO:Hid (IdsOk (idss k) (compF eqId ds)):=idsOk hp hs
     have HDL:Hid (ds.length = (idss k).length):=hp.length_eq
     have hb1:KBlk w1 go 121 5 fMem ms' rest:=(hg.block go HCAP.out.2.2.2 (fun e => HSEP.out e.symm)).trans HBLK.out
     have hc1:=hb1.cell k 3 hkm (by omega)
     rw [show fMem ms'[k] 3 = ms'[k].vI from rfl,← HVI.out] at hc1
     have HBL1:=Lib.hid hb1
     clear hp hs ho hg hc0 hb1
     go_wp2_with fail
     refine (compact_Id ds B vi w1 HO1.out (by have h1:=HIL.out k hlt;have h2:=HDL.out;omega)).mono ?_
     rintro e w2 ⟨⟨v',rfl,ho2,hat⟩,hg2⟩
     obtain ⟨A3,c3,hv3,_⟩:=ho2.slice
     have hsz1:=HG1.out.size
     have hb2:KBlk w2 go 121 5 fMem ms' rest:=(hg2.block go (by have:=HCAP.out;omega) (fun e => HSEP.out e.symm)).trans HBL1.out
     have hc2:=hb2.cell k 3 hkm (by omega)
     have f2:=hb2.frozen (k * 5 + 3)
     have hgg:wr.grownBy w2 vi.ownBlock:=HG1.out.trans hg2
     have hbel:Below w.heap.size w w2:=by
      have hb:=HM.out.bel
      exact ⟨hgg.os.trans hb.os,hgg.tape.trans hb.tape,hgg.output.trans hb.output,Nat.le_trans hb.size hgg.size,fun q hq => (hgg.block q (Nat.lt_of_lt_of_le hq hb.size) (fun e => by have h1:=(HRI.out.lt e.symm).1;have h2:=HBS.out;omega)).trans (hb.block q hq)⟩
     have LYN:Hid (LY w B ms nos idss ats (k + 1) (.slice (some ⟨go,0,none⟩) ms.length c2) (w2.setCell ⟨go,k * 5 + 3,none⟩ v')):=by
      have hcp:=HCAP.out
      have hL:=HL1.out
      have hM2:=HM.out.one hkm HV3.out (by omega) hcp.2.1 hcp.2.2.1 HREST.out hb2 (fun g g1 g2 g3 => hgg.block g g1 (fun e => g3 (by rw [← HVI.out];exact e.symm))) ho2 (by rw [← HVI.out];exact Or.inl hat) hbel
      refine ⟨_,_,hM2,by rw [List.length_set];exact hL,fun q h1 h2 => ?_,fun q hq => ?_,fun q hq => ?_⟩
      ·rw [List.getElem_set]
       split
       ·next e => subst e;exact HKEY.out k h1 hkm
       ·exact HKEY.out q h1 _
      ·by_cases e:q = k
       ·subst e
        simp only [if_true]
        exact HIO.out
       ·rw [if_neg e]
        exact HD1.out q (by omega)
      ·rw [if_neg (show q ≠ k by omega)]
       exact HD2.out q (by omega)
     subst hv3
     clear ho2 hat hg2 hb2 hc1 hgg hbel HM HO1 HG1 HBL1 HBLK HIO
     go_wp2_with fail
     exact ⟨⟨k + 1,by omega,rfl,LYN⟩,by show ms.length - (k + 1) < ms.length - k;omega⟩
    ·obtain rfl:k = ms.length:=by omega
     obtain ⟨ms',ids',hM,hl',hkey,h1,h2⟩:=J.out
     obtain ⟨rr',hrr,huf'⟩:=HREQ.out
     have HF:Hid (∃ (vout:Value) (B:Nat) (rr:List Nat) (ms:List MemD) (nos ats:Nat → List Int) (ids:Nat → List IdD),Ending.returned (.slice A2 ms'.length c2) = .returned vout ∧ Uf (Share (JD r ts) ts) rr ∧ MS w B ms nos ids ats vout wr ∧ MemQ (JD r ts) ts (repN rr) ms nos ids ats):=by
      refine ⟨_,B,rr',ms',nos,ats,ids',rfl,huf',by rw [hl'];exact hM,?_⟩
      have hmc:=HMC.out
      rw [hrr] at hmc
      refine ⟨by rw [hl'];exact hmc.len,fun k h h' => ?_,hmc.nos,hmc.ats,fun k h => ?_⟩
      ·rw [hkey k (by rw [hmc.len];exact h) h']
       exact hmc.key k h _
      ·rw [← hmc.ids k h]
       exact h1 k (by rw [hmc.len];exact h)
     rw [hl'] at HF
     clear hM hl' hkey h1 h2 J HREQ HMC HIL
     go_wp2_with fail
     first | exact bodyPost_ret (v:=.slice A2 ms.length c2) (by kernel_rfl) rfl HF.out | exact bodyPost_ret (v:=.slice A2 ms.length c2) (by simp [results,Tryz.results39,go_sem]) rfl HF.out | exact bodyPost_ret (v:=.slice A2 ms.length c2) (by rfl) rfl HF.out
end Go.Proofs.YtcncifmanodabaaGreatDoor
