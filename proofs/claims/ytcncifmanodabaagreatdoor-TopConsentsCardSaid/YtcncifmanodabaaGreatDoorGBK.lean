/- Texts of this claim, put together: RightRul, People, GlobU, GlobN, Told, CutP, TopQ. -/
import Derived.Test.YtcncifmanodabaaGreatDoorGBI
import Derived.Test.YtcncifmanodabaaGreatDoorGBJ
import Derived.Test.YtcncifmanodabaaGreatDoorGBE
import Derived.Laws.Rows
import Derived.Test.YtcncifmanodabaaGreatDoorGAO
import Derived.Test.YtcncifmanodabaaGreatDoorGAZ
import Derived.Lib.LaidU8T
namespace Go.Proofs.YtcncifmanodabaaGreatDoor
set_option linter.unusedVariables false
open Go.RowKit
structure RR0 (w:World) (bs K:Nat) (H0 H:Frz) (W00:World) (rb:Nat) (wr:World):Prop where
 lw:Lw w bs K H wr
 res:wr.heap[rb]? = some (.cells #[.slice none 0 0,.int .i64 0,.slice none 0 0,.slice none 0 0] 60 (0,0))
 br:bs < rb
 hr:H rb = none
 gr:W00.grownBy wr (some bs)
 le:H0.Le H
 old:∀ b,b < W00.heap.size → H b = H0 b
 lr:W00.heap.size ≤ rb
section
variable {w wr W' W00:World} {bs K K' rb:Nat} {H0 H H':Frz}
theorem RR0.more (h:RR0 w bs K H0 H W00 rb wr) (hK:K ≤ K'):RR0 w bs K' H0 H W00 rb wr:=⟨h.lw.more hK,h.res,h.br,h.hr,h.gr,h.le,h.old,h.lr⟩
theorem RR0.call (h:RR0 w bs K H0 H W00 rb wr) (hb:Below wr.heap.size wr W'):RR0 w bs K H0 H W00 rb W' :=
 ⟨h.lw.call hb,(hb.block _ (lt_of_heap h.res)).trans h.res,h.br,h.hr,vm_then h.gr (vm_below hb),h.le,h.old,h.lr⟩
theorem RR0.laid (h:RR0 w bs K H0 H W00 rb wr) (L:Lw w bs K' H' W') (g:wr.grownBy W' (some bs)) (hl:H.Le H') (ho:∀ b,b < wr.heap.size → H' b = H b):RR0 w bs K' H0 H' W00 rb W' :=
 ⟨L,(g.block _ (lt_of_heap h.res) (fun e => by injection e with e;have:=h.br;omega)).trans h.res,h.br,(ho _ (lt_of_heap h.res)).trans h.hr,vm_then h.gr g,h.le.trans hl,fun b hb => (ho b (Nat.lt_of_lt_of_le hb h.gr.size)).trans (h.old b hb),h.lr⟩
theorem RR0.put (h:RR0 w bs K H0 H W00 rb wr) (o:Obj):RR0 w bs K H0 (H.add wr.heap.size o) W00 rb (wr.alloc o) ∧ (H.add wr.heap.size o) wr.heap.size = some o:=by
 have hl:=Frz.le_add (o:=o) (h.lw.fin.none_ (Nat.le_refl _))
 have hs:=h.gr.size
 have hr:=lt_of_heap h.res
 refine ⟨⟨(h.lw.alloc o).keep (heap_at rfl) (by have:=h.lw.lt;omega),(h.call (new1 o)).res,h.br,?_,(h.call (new1 o)).gr,h.le.trans hl,fun b hb => ?_,h.lr⟩,Frz.add_at _ _ _⟩
 ·rw [Frz.add_other (by omega)];exact h.hr
 ·rw [Frz.add_other (by omega)];exact h.old b hb
theorem RR0.done (h:RR0 w bs K H0 H W00 rb wr) (hK:K ≤ K') (v0 v1 v2 v3:Value):Lw w bs K' H ((((wr.setCell ⟨rb,0,none⟩ v0).setCell ⟨rb,1,none⟩ v1).setCell ⟨rb,2,none⟩ v2).setCell ⟨rb,3,none⟩ v3) ∧ W00.grownBy ((((wr.setCell ⟨rb,0,none⟩ v0).setCell ⟨rb,1,none⟩ v1).setCell ⟨rb,2,none⟩ v2).setCell ⟨rb,3,none⟩ v3) (some bs):=by
 have hg9:=vm_setc (vm_setc (vm_setc (vm_setc (World.grownBy.refl wr (some rb)) 0 v0) 1 v1) 2 v2) 3 v3
 refine ⟨(h.lw.grown hg9 (fun q hq => by injection hq with hq;subst hq;exact ⟨h.br,h.hr⟩)).more hK,⟨hg9.os.trans h.gr.os,hg9.tape.trans h.gr.tape,hg9.output.trans h.gr.output,Nat.le_trans h.gr.size hg9.size,fun b hb hne => ?_⟩⟩
 have:=h.lr
 exact (hg9.block b (Nat.lt_of_lt_of_le hb h.gr.size) (fun e => by injection e with e;omega)).trans (h.gr.block b hb hne)
end
open Go.RowKit
open Go.RowKit
theorem u8Extra:U8Extra Tryz.prog Tryz.laysValid_ren where
 n3:=by kernel_rfl
 n4:=by kernel_rfl
 y3:=by kernel_rfl
 y4:=by kernel_rfl
 c5:=by kernel_rfl
 c119:=by kernel_rfl
 c138:=by kernel_rfl
theorem utf_of {w : World} (h1 : VarHolds Tryz.prog w "unicode/utf8.first" Lib.firstData) (h2 : VarHolds Tryz.prog w "unicode/utf8.acceptRanges" Lib.acceptData) : UtfIn (memH w) := by
 have ht:Lib.Utf8Tabs 3 4 w:=utf8Tabs_of_readsT (U8Types.of196 Tryz.laysValid) u8Extra h1 h2
 exact fun W hW => ⟨fun c hc => hW.cell (memH_cell (ht.1 c hc)),fun i hi => ⟨hW.cell (memH_cell (ht.2 i hi).1),hW.cell (memH_cell (ht.2 i hi).2)⟩⟩
structure GlobU (w:World):Prop where
 utf:UtfIn (memH w)
 mlen:MLen (memH w)
open Go.RowKit
def namesB:List (List UInt8):=[[97,103,101],[99,105,116,121],[106,111,105,110,101,100],[110,97,109,101],[112,108,97,110],[118,105,112]]
theorem names_at (i:Nat) (h:i < namesB.length):namesL[i]'h = ⟨namesB[i].toArray⟩:=by
 match i,h with
 | 0,_ => rfl
 | 1,_ => rfl
 | 2,_ => rfl
 | 3,_ => rfl
 | 4,_ => rfl
 | 5,_ => rfl
def namesData:DataW Unit:=.agg (namesB.map fun s => .lit (.string s))
theorem names_of {w : World} (h : VarHolds Tryz.prog w "handbill/handmake.fieldNames" namesData) : NamesIn (memH w) := by
 obtain ⟨g,t,cs,fuel,p,hg,hty,hvar,hd⟩:=h
 obtain rfl := Option.some.inj ((show Tryz.prog.globalNamed "handbill/handmake.fieldNames" = some 1 by kernel_rfl).symm.trans hg)
 obtain rfl:=Option.some.inj ((show (Tryz.prog.globals[1]?).map (·.type) = some 167 by kernel_rfl).symm.trans hty)
 obtain ⟨xs,m,-,hx,hl,hxl,hf⟩:=DataW.trod_array Tryz.underlying167 hd
 have hcs:Tryz.prog.cellsOf 9 = 1:=by kernel_rfl
 have hdx:xs.map (·.1) = namesB.map fun s => (DataW.lit (.string s):DataW Unit):=by
  have:=congrArg Prod.fst hx
  simpa [namesData] using this.symm
 intro i hi
 have hi6:i < 6:=hi
 have hib:i < namesB.length:=hi
 refine Eq.trans ?_ (congrArg (fun s => some (Value.string s)) (names_at i hib).symm)
 show _ = some (Value.string ⟨(namesB[i]'hib).toArray⟩)
 have h1:=hf i hi6
 rw [hcs] at h1
 have hix:i < xs.length:=by omega
 rw [List.getElem?_eq_getElem hix] at h1
 have hpx:namesB[i]? = some namesB[i]:=List.getElem?_eq_getElem hib
 generalize namesB[i] = x at hpx ⊢
 have hd1:xs[i].1 = DataW.lit (.string x):=by
  have:=congrArg (fun l => l[i]?) hdx
  simp only [List.getElem?_map] at this
  rw [List.getElem?_eq_getElem hix,hpx] at this
  exact Option.some.inj this
 obtain ⟨s,c1,v1,-⟩:=DataW.trod_string Tryz.underlying9 h1
 have es:=(congrArg Prod.fst v1).symm.trans hd1
 simp only [DataW.lit.injEq,Lit.string.injEq] at es
 have k1:=congrArg (fun l => l[0]?) c1
 simp [List.getElem?_drop] at k1
 refine memH_cell ?_
 rw [World.var?_cell hg hvar i,← Array.getElem?_toList,← es]
 simpa using k1
structure GlobN (w:World):Prop where
 utf:UtfIn (memH w)
 mlen:MLen (memH w)
 names:NamesIn (memH w)
structure GlobP (w:World):Prop where
 utf:UtfIn (memH w)
 mlen:MLen (memH w)
 names:NamesIn (memH w)
 pool:PoolIn (memH w)
theorem globP_of {w:World} {l:List (String × DataW Unit)} {d1 d2 d3 d4:DataW Unit} (e1:d1 = Lib.firstData) (e2:d2 = Lib.acceptData) (e3:d3 = namesData) (e4:d4 = poolData) (h:laidMetH Tryz.prog l w) (hl:(l.all fun x => x.2.handleName?.isNone) = true)
  (hm1 : ("unicode/utf8.first", d1) ∈ l) (hm2 : ("unicode/utf8.acceptRanges", d2) ∈ l) (hm3 : ("handbill/handmake.fieldNames", d3) ∈ l) (hm4 : ("handbill/handmake.idPool", d4) ∈ l) (hs : w.ShapedOpen Tryz.prog) : GlobP w := by
 subst e1 e2 e3 e4
 exact ⟨utf_of (laidH_holds h hl hm1) (laidH_holds h hl hm2),mlen_of hs,names_of (laidH_holds h hl hm3),pool_of (laidH_holds h hl hm4)⟩
open Go.RowKit
theorem fit_of {x:IdD} (h:idErr x.kind x.text = 0):FitId x:=by
 obtain ⟨-,-,h3,h4⟩:=norm_same h ⟨#[]⟩
 exact ⟨by omega,by omega⟩
structure Told (H:Frz) (A:Option Addr) (r:RulD) (ts:List TchD):Prop where
 row:Rw H A 5 fTch ts
 inn:∀ t ∈ ts,TcIn H t
 rul:RulIn H r
 sz:SzR r
 rz:rulE r = 0
 right:RightTs ts
 len:ts.length ≤ 100
theorem RightTs.pre {ts:List TchD} (h:RightTs ts) (k:Nat):RightTs (ts.take k):=by
 unfold RightTs at h ⊢
 have h0:=fstErr_zero.1 h
 refine fstErr_zero.2 fun i hi => ?_
 rw [List.length_take] at hi
 have:=h0 i (by omega)
 unfold tch1 at this ⊢
 rw [List.getElem?_take_of_lt (by omega)]
 have e:prevNo (ts.take k) i = prevNo ts i:=by
  cases i with
  | zero => rfl
  | succ i =>
   unfold prevNo
   simp only
   rw [List.getElem?_take_of_lt (by omega)]
 rw [e]
 exact this
theorem Told.pre {H:Frz} {A:Option Addr} {r:RulD} {ts:List TchD} (h:Told H A r ts) (k:Nat):Told H A r (ts.take k) :=
 ⟨h.row.take k,fun t ht => h.inn t (List.mem_of_mem_take ht),h.rul,h.sz,h.rz,h.right.pre k,by have:=h.len;rw [List.length_take];omega⟩
theorem Told.le {H H':Frz} {A:Option Addr} {r:RulD} {ts:List TchD} (h:Told H A r ts) (hl:H.Le H'):Told H' A r ts:=⟨h.row.le hl,fun t ht => (h.inn t ht).le hl,h.rul.le hl,h.sz,h.rz,h.right,h.len⟩
theorem Told.both {H:Frz} {A:Option Addr} {r:RulD} {ts:List TchD} (h:Told H A r ts):bothE r ts = 0:=by
 unfold bothE
 rw [if_neg (by rw [h.rz];simp)]
 exact h.right.all (by have:=h.len;omega)
theorem Told.rising {H:Frz} {A:Option Addr} {r:RulD} {ts:List TchD} (h:Told H A r ts):ts.Pairwise fun a b => a.no < b.no:=(tchs_right (h.right.all (by have:=h.len;omega))).2.2
theorem persons_toldN (H:Frz) (hU:UtfIn H) (hM:MLen H) (A:Option Addr) (cap:Nat) (r:RulD) (ts:List TchD) (h:Told H A r ts) (w:World) (hH:H.In w) :
  Calls Tryz.prog 14 #[.agg #[.slice r.ka r.kinds.length r.kc,.int .i64 r.most,.slice r.wa r.weaks.length r.wc,.slice r.sa r.surs.length r.sc],.slice A ts.length cap] w fun e w' => Below w.heap.size w w' ∧ ∃ (A':Option Addr) (c:Nat) (ps:List PerD) (rr:List Nat),e = .returned (.tuple #[.slice A' ps.length c,.int .i64 0]) ∧ Uf (Share (JD r ts) ts) rr ∧ PerIn (wholeH w') A' ps ∧ PersQ (JD r ts) ts (repN rr) ps ∧ ps.length ≤ c ∧ PerIn (newH w.heap.size w') A' ps:=by
 have ht:=(tchs_right (h.right.all (by have:=h.len;omega))).2.1
 refine (Persons_any H hU hM r A cap ts w hH h.rul ⟨h.row,fun t hx => ⟨(h.inn t hx).ids,(h.inn t hx).fds⟩⟩ h.sz (by have:=h.len;omega) (fun t hx => (h.inn t hx).sz) (fun t hx x hxx => fit_of ((ht t hx).idE x hxx))).mono ?_
 rintro e w' ⟨hb,ho⟩
 rcases ho with ⟨g,-⟩ | ⟨-,A',c,ps,rr,he,hu,hp,hq,hc⟩
 ·exact absurd h.both g
 ·exact ⟨hb,A',c,ps,rr,he,hu,hp,hq,hc⟩
open Go.RowKit
theorem Share.mono {J J':IdD → Bool} {ts:List TchD} (hJ:∀ x,J x = true → J' x = true) {i j:Nat} (h:Share J ts i j):Share J' ts i j:=by
 obtain ⟨hi,hj,x,h1,h2,h3⟩:=h
 exact ⟨hi,hj,x,hJ x h1,h2,h3⟩
section
variable {J:IdD → Bool} {ts:List TchD} {rr:List Nat} {ρ:Nat}
end
open Go.RowKit
section
variable {J0 J:IdD → Bool} {ts:List TchD} {k:Nat} {r0 rr:List Nat} {bs as_:List PerD}
theorem share_pre (hJ:∀ t ∈ ts,∀ x ∈ t.ids,J x = true) (i j:Nat) (h:Share J0 (ts.take k) i j):Share J ts i j:=by
 obtain ⟨hi,hj,x,h1,h2,h3⟩:=h
 rw [List.length_take] at hi hj
 rw [List.getElem_take] at h2 h3
 exact ⟨by omega,by omega,x,hJ _ (List.getElem_mem _) x (hasId_iff.1 h2),h2,h3⟩
theorem top_sub (hJ:∀ t ∈ ts,∀ x ∈ t.ids,J x = true) (h0:Uf (Share J0 (ts.take k)) r0) (hu:Uf (Share J ts) rr) (hq0:PersQ J0 (ts.take k) (repN r0) bs) (hq:PersQ J ts (repN rr) as_) {b a:PerD} (hb:b ∈ bs) (ha:a ∈ as_) {x:IdD} (hxb:x ∈ b.ids) (hxa:x ∈ a.ids):∀ y ∈ b.ids,y ∈ a.ids:=by
 obtain ⟨i,hi,rfl⟩:=List.getElem_of_mem hb
 obtain ⟨j,hj,rfl⟩:=List.getElem_of_mem ha
 have hir:i < (rts (repN r0) (ts.take k).length).length:=by rw [← hq0.len];exact hi
 have hjr:j < (rts (repN rr) ts.length).length:=by rw [← hq.len];exact hj
 have tk:∀ q,q < (ts.take k).length → q < ts.length ∧ tAt (ts.take k) q = tAt ts q:=fun q hql => by
  have h1:q < ts.length:=by rw [List.length_take] at hql;omega
  refine ⟨h1,?_⟩
  rw [tAt_lt hql,tAt_lt h1,List.getElem_take]
 obtain ⟨q1,m1,hx1⟩:=List.mem_flatMap.1 (((hq0.ids i hir hi).2 x).1 hxb)
 obtain ⟨q2,m2,hx2⟩:=List.mem_flatMap.1 (((hq.ids j hjr hj).2 x).1 hxa)
 obtain ⟨l1,e1⟩:=in_cls.1 m1
 obtain ⟨l2,e2⟩:=in_cls.1 m2
 obtain ⟨l1',t1⟩:=tk q1 l1
 rw [t1,tAt_lt l1'] at hx1
 rw [tAt_lt l2] at hx2
 have s12:repN rr q1 = repN rr q2:=(hu.iff q1 q2).2 (.edge ⟨l1',l2,x,hJ _ (List.getElem_mem l1') x hx1,hasId_iff.2 hx1,hasId_iff.2 hx2⟩)
 intro y hy
 obtain ⟨q3,m3,hy3⟩:=List.mem_flatMap.1 (((hq0.ids i hir hi).2 y).1 hy)
 obtain ⟨l3,e3⟩:=in_cls.1 m3
 obtain ⟨l3',t3⟩:=tk q3 l3
 have s31:repN rr q3 = repN rr q1:=(hu.iff q3 q1).2 (((h0.iff q3 q1).1 (e3.trans e1.symm)).mono (share_pre hJ))
 refine ((hq.ids j hjr hj).2 y).2 (List.mem_flatMap.2 ⟨q3,in_cls.2 ⟨l3',(s31.trans s12).trans e2⟩,?_⟩)
 rw [← t3]
 exact hy3
end
end Go.Proofs.YtcncifmanodabaaGreatDoor
