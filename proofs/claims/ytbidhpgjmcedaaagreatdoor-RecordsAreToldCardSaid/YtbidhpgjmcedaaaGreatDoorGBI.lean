/- Texts of this claim, put together: CloneId, MakeJrS, MakeJrW, MakeJrX. -/
import Derived.Test.YtbidhpgjmcedaaaGreatDoorGAH
import Derived.Test.YtbidhpgjmcedaaaGreatDoorGAC
import Derived.StillTailTactics
import Derived.Deep.Cut
import Derived.Test.YtbidhpgjmcedaaaGreatDoorGBH
import Derived.Test.YtbidhpgjmcedaaaGreatDoorGBG
import Derived.Test.YtbidhpgjmcedaaaGreatDoorGBC
import Derived.Laws.Rows
import Derived.Deep.CutBlock
import Derived.Deep.DeepCutAuto
namespace Go.Proofs.YtbidhpgjmcedaaaGreatDoor
set_option linter.unusedVariables false
open Go.RowKit
theorem infoId : (Tryz.prog.info? 55).map (fun i => (i.zero,i.size,i.bytes)) = some (some (.agg #[.int .i64 0,.string ⟨#[]⟩]),2,24):=by kernel_rfl
section
variable {D : Type}
set_option maxHeartbeats 1000000 in
set_option maxRecDepth 100000 in
theorem clone_Id (H : Frz) (f : D → Nat → Value) (ds : List D) (hf : ∀ d ∈ ds,∀ m,(f d m).oneCell' = true) (A : Option Addr) (cap : Nat) (w : World) (hH : H.In w) (hR : Rw H A 2 f ds) (hl : ds.length ≤ 1000000) :
  Calls Tryz.prog 34 #[.slice A ds.length cap] w fun e w' => (∃ v,e = .returned v ∧ Orow w' w.heap.size 55 2 f v ds) ∧ Below w.heap.size w w':=by
 obtain ⟨i0,hi0,hz0,hz1,hz2⟩:=info_parts infoId
 cases A with
 | none =>
  have hd : ds = []:=by
   cases ds with
   | nil => rfl
   | cons d ds => obtain ⟨b,off,e,_⟩:=hR 0 (by simp); cases e
  subst hd
  have hn:=fun wx => Lib.run_eql_slice_nil (P:=Tryz.prog) wx 41 55 none 0 cap 0 0 Tryz.underlying41
  clear hR hH hf
  go_enter Tryz.func34,Tryz.ntmps34
  go_wp2_with fail
  go_ret
  exact ⟨⟨_,rfl,Orow.nil _ _ _ _ _⟩,Below.refl _ _⟩
 | some ad =>
  have hnews : Hid (∀ j u,(cellsOf 2 f ds)[j]? = some u → w.cell? (ad.add j) = some u):=by
   intro j u hu
   have hj : j < ds.length * 2:=by have:=(List.getElem?_eq_some_iff.1 hu).1; rwa [cellsOf_len] at this
   obtain ⟨b,off,e,_,hc⟩:=hR.at_ hH (i:=j / 2) (by omega) (by omega)
   injection e with e
   subst e
   have h2:=hc (j % 2) (Nat.mod_lt _ (by omega))
   have h3:=cellsOf_get 2 f ds (j / 2) (j % 2) (by omega) (Nat.mod_lt _ (by omega))
   have e1 : j / 2 * 2 + j % 2 = j:=by omega
   rw [e1,hu] at h3
   rw [Addr.add_lit,show off + j = off + j / 2 * 2 + j % 2 from by omega,h2]
   exact h3.symm
  have hone : Hid (∀ u ∈ cellsOf 2 f ds,u.oneCell' = true):=by
   intro u hu
   simp only [cellsOf,List.mem_flatMap,List.mem_map] at hu
   obtain ⟨d,hd,m,_,rfl⟩:=hu
   exact hf d hd m
  have hlen:=Lib.hid (cellsOf_len 2 f ds)
  have hn:=fun wx => Lib.run_eql_slice_nil (P:=Tryz.prog) wx 41 55 (some ad) ds.length cap 0 0 Tryz.underlying41
  have hown : Hid ((w.alloc (.cells #[] 55)).ownsRow w.heap.size 55 2 (.slice (some ⟨w.heap.size,0,none⟩) 0 0) 0 []):=⟨rfl,Or.inr ⟨w.heap.size,0,#[],rfl,Nat.le_refl _,heap_at rfl,Nat.le_refl _,Nat.zero_le _,rfl,rfl⟩⟩
  have hnews2 : Hid (∀ j u,(cellsOf 2 f ds)[j]? = some u → (w.alloc (.cells #[] 55)).cell? (ad.add j) = some u):=fun j u hu => by
   have:=hnews.out j u hu
   exact (World.cell?_alloc_lt w _ _ (World.block_lt_of_cell? w _ this)).trans this
  clear hR hH hf hnews
  go_enter Tryz.func34,Tryz.ntmps34
  go_wp2_with (at_builtin; refine wpList_append_own _ rfl _ _ 41 rfl w.heap.size 55 i0 (.agg #[.int .i64 0,.string ⟨#[]⟩]) 2 24 Tryz.underlying41 hi0 hz0 hz1 hz2 rfl (by decide) (.slice (some ⟨w.heap.size,0,none⟩) 0 0) 0 [] rfl hown.out ad ds.length cap (cellsOf 2 f ds) rfl hlen.out hnews2.out hone.out (by simp only [maxLen]; omega) (by omega) (by simp) ?_; intro v1 w2 o1 g1 b1)
  have O1 : Hid (Orow w2 w.heap.size 55 2 f v1 ds):=by
   show World.ownsRow _ _ _ _ _ _ _
   simpa using o1
  have B1 : Hid (Below w.heap.size w w2):=((Below.refl _ w).alloc (Nat.le_refl _) _).grown g1 (by simp) (fun q hq => by simp [Value.ownBlock] at hq; omega)
  clear o1 g1 b1
  go_wp2_with fail
  go_ret
  exact ⟨⟨_,rfl,O1.out⟩,B1.out⟩
end
open Go.RowKit
theorem Orow.own_blk {D : Type} {w : World} {B T k : Nat} {f : D → Nat → Value} {v : Value} {ds : List D} (h : Orow w B T k f v ds) {g : Nat} (e : v.ownBlock = some g) : ∃ cur,w.heap[g]? = some (.cells cur T (0,0)):=by
 rcases h.2 with ⟨rfl,hn⟩ | ⟨g',cap,cur,rfl,hB,hh,hle,hm,hs,ht⟩
 ·cases e
 ·injection e with e
  subst e
  exact ⟨cur,hh⟩
theorem ty_ne {w : World} {b g T1 T2 : Nat} {c1 c2 : Array Value} (h1 : w.heap[b]? = some (.cells c1 T1 (0,0))) (h2 : w.heap[g]? = some (.cells c2 T2 (0,0))) (hne : T1 ≠ T2) : b ≠ g:=by
 rintro rfl
 rw [h1] at h2
 injection h2 with h2
 injection h2 with _ h2
 exact hne h2
theorem Orow.ty_ne {D E : Type} {w : World} {B B2 T T2 k k2 : Nat} {f : D → Nat → Value} {f2 : E → Nat → Value} {v v2 : Value} {ds : List D} {es : List E} (h : Orow w B T k f v ds) (h2 : Orow w B2 T2 k2 f2 v2 es) (hne : T ≠ T2) : v.ownBlock = none ∨ v.ownBlock ≠ v2.ownBlock:=by
 cases e : v.ownBlock with
 | none => exact Or.inl rfl
 | some g =>
  right
  intro c
  obtain ⟨c1,h3⟩:=h.own_blk e
  obtain ⟨c2,h4⟩:=h2.own_blk c.symm
  exact absurd rfl (Go.Proofs.YtbidhpgjmcedaaaGreatDoor.ty_ne h3 h4 hne)
structure JM (w : World) (bs K : Nat) (H0 H : Frz) (W00 : World) (ob rb : Nat) (d : RulD) (wr : World) : Prop where
 lw : Lw w bs K H wr
 blk : wr.heap[ob]? = some (.cells #[.slice d.ka d.kinds.length d.kc,.int .i64 d.most,.slice d.wa d.weaks.length d.wc,.slice d.sa d.surs.length d.sc] 44 (0,0))
 res : wr.heap[rb]? = some (.cells #[.slice none 0 0,.int .i64 0,.slice none 0 0,.slice none 0 0] 44 (0,0))
 bo : bs < ob
 br : bs < rb
 ne : rb ≠ ob
 ho : H ob = none
 hr : H rb = none
 gr : W00.grownBy wr (some bs)
 le : H0.Le H
 old : ∀ b,b < W00.heap.size → H b = H0 b
 lo : W00.heap.size ≤ ob
 lr : W00.heap.size ≤ rb
 b0 : bs < W00.heap.size
 kin : Rw H d.ka 1 fI d.kinds
 wk : Orow wr W00.heap.size 55 2 fId (.slice d.wa d.weaks.length d.wc) d.weaks
 sv : Orow wr W00.heap.size 210 3 fSur (.slice d.sa d.surs.length d.sc) d.surs
 nk : ∀ g,(Value.slice d.wa d.weaks.length d.wc).ownBlock = some g → H g = none
 nv : ∀ g,(Value.slice d.sa d.surs.length d.sc).ownBlock = some g → H g = none
 src : ∀ x ∈ d.surs,Rw H x.sa 1 fS x.srcs
 sz : SzR d
section
variable {w wr W' W00 : World} {bs K K' ob rb : Nat} {H0 H : Frz} {d : RulD}
theorem JM.more (h : JM w bs K H0 H W00 ob rb d wr) (hK : K ≤ K') : JM w bs K' H0 H W00 ob rb d wr:={ h with lw:=h.lw.more hK }
theorem JM.asked (h : JM w bs K H0 H W00 ob rb d wr) (L : Lw w bs K' H W') (g : wr.grownBy W' (some bs)) : JM w bs K' H0 H W00 ob rb d W' :=
 { h with
  lw:=L
  blk:=(g.block _ (lt_of_heap h.blk) (fun e => by injection e with e; have:=h.bo; omega)).trans h.blk
  res:=(g.block _ (lt_of_heap h.res) (fun e => by injection e with e; have:=h.br; omega)).trans h.res
  gr:=vm_then h.gr g
  wk:=h.wk.far g h.b0
  sv:=h.sv.far g h.b0 }
theorem JM.call (h : JM w bs K H0 H W00 ob rb d wr) (hb : Below wr.heap.size wr W') : JM w bs K H0 H W00 ob rb d W':=h.asked (h.lw.call hb) (vm_below hb)
theorem JM.alloc (h : JM w bs K H0 H W00 ob rb d wr) (o : Obj) : JM w bs K H0 H W00 ob rb d (wr.alloc o):=h.call (new1 o)
theorem JM.drew (h : JM w bs K H0 H W00 ob rb d wr) : JM w bs K H0 H W00 ob rb d wr.drew:=h.call (Below.refl _ _).drew
theorem JM.laid (h : JM w bs K H0 H W00 ob rb d wr) {H' : Frz} (hl : H.Le H') (L : Lw w bs K H' wr) (ho : ∀ b,b < W00.heap.size → H' b = H b) (h1 : H' ob = none) (h2 : H' rb = none)
  (h3 : ∀ g,(Value.slice d.wa d.weaks.length d.wc).ownBlock = some g → H' g = none) (h4 : ∀ g,(Value.slice d.sa d.surs.length d.sc).ownBlock = some g → H' g = none) : JM w bs K H0 H' W00 ob rb d wr :=
 { h with lw:=L,ho:=h1,hr:=h2,le:=h.le.trans hl,old:=fun b hb => (ho b hb).trans (h.old b hb),kin:=h.kin.le hl,nk:=h3,nv:=h4,src:=fun x hx => (h.src x hx).le hl }
theorem JM.put (h : JM w bs K H0 H W00 ob rb d wr) (o : Obj) : ∃ H',H.Le H' ∧ H' wr.heap.size = some o ∧ JM w bs K H0 H' W00 ob rb d (wr.alloc o):=by
 have hl:=Frz.le_add (o:=o) (h.lw.fin.none_ (Nat.le_refl _))
 have hs:=h.gr.size
 refine ⟨H.add wr.heap.size o,hl,Frz.add_at _ _ _,(h.alloc o).laid hl ((h.lw.alloc o).keep (heap_at rfl) (by have:=h.lw.lt; omega)) (fun b hb => Frz.add_other (by omega)) ?_ ?_ ?_ ?_⟩
 ·rw [Frz.add_other (by have:=lt_of_heap h.blk; omega)]; exact h.ho
 ·rw [Frz.add_other (by have:=lt_of_heap h.res; omega)]; exact h.hr
 ·intro g hg
  rw [Frz.add_other (by have:=(h.wk.lt hg).2; omega)]; exact h.nk g hg
 ·intro g hg
  rw [Frz.add_other (by have:=(h.sv.lt hg).2; omega)]; exact h.nv g hg
theorem JM.frz (h : JM w bs K H0 H W00 ob rb d wr) (j : Nat) : wr.frozen? ⟨ob,j,none⟩ = false:=froz_h h.blk j
theorem JM.wne (h : JM w bs K H0 H W00 ob rb d wr) {g : Nat} (e : (Value.slice d.wa d.weaks.length d.wc).ownBlock = some g) : g ≠ ob ∧ g ≠ rb:=by
 obtain ⟨c,hc⟩:=h.wk.own_blk e
 exact ⟨ty_ne hc h.blk (by decide),ty_ne hc h.res (by decide)⟩
theorem JM.sne (h : JM w bs K H0 H W00 ob rb d wr) {g : Nat} (e : (Value.slice d.sa d.surs.length d.sc).ownBlock = some g) : g ≠ ob ∧ g ≠ rb:=by
 obtain ⟨c,hc⟩:=h.sv.own_blk e
 exact ⟨ty_ne hc h.blk (by decide),ty_ne hc h.res (by decide)⟩
theorem Orow.beside {D : Type} {w : World} {B T k : Nat} {f : D → Nat → Value} {v : Value} {ds : List D} (h : Orow w B T k f v ds) {b : Nat} (hne : ∀ g,v.ownBlock = some g → g ≠ b) (j : Nat) (x : Value) : Orow (w.setCell ⟨b,j,none⟩ x) B T k f v ds :=
 h.kept (vm_setc (World.grownBy.refl _ _) j x) (by
  cases e : v.ownBlock with
  | none => exact Or.inl rfl
  | some g => right; intro c; injection c with c; exact hne g e c)
theorem JM.set (h : JM w bs K H0 H W00 ob rb d wr) (j : Nat) (x : Value) (d' : RulD) (he : (wr.setCell ⟨ob,j,none⟩ x).heap[ob]? = some (.cells #[.slice d'.ka d'.kinds.length d'.kc,.int .i64 d'.most,.slice d'.wa d'.weaks.length d'.wc,.slice d'.sa d'.surs.length d'.sc] 44 (0,0)))
  (hw : d'.wa = d.wa ∧ d'.weaks = d.weaks ∧ d'.wc = d.wc) (hs : d'.sa = d.sa ∧ d'.surs = d.surs ∧ d'.sc = d.sc) (hk : Rw H d'.ka 1 fI d'.kinds) (hz : SzR d') : JM w bs K H0 H W00 ob rb d' (wr.setCell ⟨ob,j,none⟩ x):=by
 obtain ⟨w1,w2,w3⟩:=hw
 obtain ⟨s1,s2,s3⟩:=hs
 refine ⟨h.lw.setCell (p:=⟨ob,j,none⟩) h.bo h.ho x,he,(Below.heap_setCell wr _ _ rb h.ne).trans h.res,h.bo,h.br,h.ne,h.ho,h.hr,?_,h.le,h.old,h.lo,h.lr,h.b0,hk,?_,?_,?_,?_,?_,hz⟩
 ·exact ⟨h.gr.os,h.gr.tape,h.gr.output,by have:=h.gr.size; simpa [World.setCell] using this,fun b hb hne => (Below.heap_setCell wr _ _ b (by have:=h.lo; show b ≠ ob; omega)).trans (h.gr.block b hb hne)⟩
 ·rw [w1,w2,w3]; exact h.wk.beside (fun g e => (h.wne e).1) j x
 ·rw [s1,s2,s3]; exact h.sv.beside (fun g e => (h.sne e).1) j x
 ·rw [w1,w2,w3]; exact h.nk
 ·rw [s1,s2,s3]; exact h.nv
 ·rw [s2]; exact h.src
theorem JM.setMost (h : JM w bs K H0 H W00 ob rb d wr) (z : Int) : JM w bs K H0 H W00 ob rb { d with most:=z } (wr.setCell ⟨ob,1,none⟩ (.int .i64 z)) :=
 h.set 1 _ _ (by simp [World.setCell,Array.getElem?_modify,h.blk]) ⟨rfl,rfl,rfl⟩ ⟨rfl,rfl,rfl⟩ h.kin ⟨h.sz.k,h.sz.w,h.sz.wt,h.sz.u,h.sz.us⟩
theorem JM.setKinds (h : JM w bs K H0 H W00 ob rb d wr) (A : Option Addr) (l : List Int) (c : Nat) (hx : Rw H A 1 fI l) (hl : l.length ≤ 1000000) : JM w bs K H0 H W00 ob rb { d with ka:=A,kinds:=l,kc:=c } (wr.setCell ⟨ob,0,none⟩ (.slice A l.length c)) :=
 h.set 0 _ _ (by simp [World.setCell,Array.getElem?_modify,h.blk]) ⟨rfl,rfl,rfl⟩ ⟨rfl,rfl,rfl⟩ hx ⟨hl,h.sz.w,h.sz.wt,h.sz.u,h.sz.us⟩
theorem JM.appS (h : JM w bs K H0 H W00 ob rb d wr) {v' : Value} {x : SurD} (o : Orow W' W00.heap.size 210 3 fSur v' (d.surs ++ [x])) (g1 : wr.grownBy W' (Value.slice d.sa d.surs.length d.sc).ownBlock)
  (at1 : v'.ownBlock = (Value.slice d.sa d.surs.length d.sc).ownBlock ∨ ∃ g,v'.ownBlock = some g ∧ wr.heap.size ≤ g) (hx : Rw H x.sa 1 fS x.srcs) (hz : SzS x) (hl : d.surs.length < 1000000) :
  W'.cell? ⟨ob,3,none⟩ = some (.slice d.sa d.surs.length d.sc) ∧ W'.frozen? ⟨ob,3,none⟩ = false ∧ ∃ A' c',v' = .slice A' (d.surs.length + 1) c' ∧ JM w bs K H0 H W00 ob rb { d with sa:=A',surs:=d.surs ++ [x],sc:=c' } (W'.setCell ⟨ob,3,none⟩ v'):=by
 obtain ⟨A',c',hv,-⟩:=o.slice
 have hlen : (d.surs ++ [x]).length = d.surs.length + 1:=by simp
 rw [hlen] at hv
 subst hv
 have hown : ∀ q,(Value.slice d.sa d.surs.length d.sc).ownBlock = some q → bs < q ∧ H q = none:=fun q hq => ⟨by have:=(h.sv.lt hq).1; have:=h.b0; omega,h.nv q hq⟩
 have hb : W'.heap[ob]? = some (.cells #[.slice d.ka d.kinds.length d.kc,.int .i64 d.most,.slice d.wa d.weaks.length d.wc,.slice d.sa d.surs.length d.sc] 44 (0,0)):=(g1.block _ (lt_of_heap h.blk) (fun e => (h.sne e.symm).1 rfl)).trans h.blk
 have hr : W'.heap[rb]? = some (.cells #[.slice none 0 0,.int .i64 0,.slice none 0 0,.slice none 0 0] 44 (0,0)):=(g1.block _ (lt_of_heap h.res) (fun e => (h.sne e.symm).2 rfl)).trans h.res
 have hne : ∀ g,(Value.slice A' (d.surs.length + 1) c').ownBlock = some g → g ≠ ob ∧ H g = none:=fun g e => by
  rcases at1 with a | ⟨g2,a,hg⟩
  ·rw [e] at a
   exact ⟨(h.sne a.symm).1,h.nv g a.symm⟩
  ·rw [e] at a
   injection a with a
   subst a
   exact ⟨by have:=lt_of_heap h.blk; omega,h.lw.fin.none_ (by omega)⟩
 have hwk : Orow W' W00.heap.size 55 2 fId (.slice d.wa d.weaks.length d.wc) d.weaks:=h.wk.kept g1 (h.wk.ty_ne h.sv (by decide))
 refine ⟨cell_h hb 3 rfl,froz_h hb 3,A',c',rfl,⟨(h.lw.grown g1 hown).setCell (p:=⟨ob,3,none⟩) h.bo h.ho _,by simp [World.setCell,Array.getElem?_modify,hb],(Below.heap_setCell W' _ _ rb h.ne).trans hr,h.bo,h.br,h.ne,h.ho,h.hr,?_,h.le,h.old,h.lo,h.lr,h.b0,h.kin,?_,?_,h.nk,?_,?_,⟨h.sz.k,h.sz.w,h.sz.wt,by rw [hlen]; omega,?_⟩⟩⟩
 ·exact ⟨g1.os.trans h.gr.os,g1.tape.trans h.gr.tape,g1.output.trans h.gr.output,by have:=h.gr.size; have:=g1.size; simp [World.setCell]; omega,fun b hb2 hne2 => (Below.heap_setCell W' _ _ b (by have:=h.lo; show b ≠ ob; omega)).trans ((g1.block b (Nat.lt_of_lt_of_le hb2 h.gr.size) (fun e => by have:=(h.sv.lt e.symm).1; omega)).trans (h.gr.block b hb2 hne2))⟩
 ·exact hwk.beside (fun g e => (h.wne e).1) 3 _
 ·rw [hlen]; exact o.beside (fun g e => (hne g e).1) 3 _
 ·rw [hlen]; exact fun g e => (hne g e).2
 ·intro y hy
  rcases List.mem_append.1 hy with hy | hy
  ·exact h.src y hy
  ·simp at hy; rw [hy]; exact hx
 ·intro y hy
  rcases List.mem_append.1 hy with hy | hy
  ·exact h.sz.us y hy
  ·simp at hy; rw [hy]; exact hz
theorem JM.appW (h : JM w bs K H0 H W00 ob rb d wr) {v' : Value} {x : IdD} (o : Orow W' W00.heap.size 55 2 fId v' (d.weaks ++ [x])) (g1 : wr.grownBy W' (Value.slice d.wa d.weaks.length d.wc).ownBlock)
  (at1 : v'.ownBlock = (Value.slice d.wa d.weaks.length d.wc).ownBlock ∨ ∃ g,v'.ownBlock = some g ∧ wr.heap.size ≤ g) (hz : x.text.size ≤ 1000000) (hl : d.weaks.length < 1000000) :
  W'.cell? ⟨ob,2,none⟩ = some (.slice d.wa d.weaks.length d.wc) ∧ W'.frozen? ⟨ob,2,none⟩ = false ∧ ∃ A' c',v' = .slice A' (d.weaks.length + 1) c' ∧ JM w bs K H0 H W00 ob rb { d with wa:=A',weaks:=d.weaks ++ [x],wc:=c' } (W'.setCell ⟨ob,2,none⟩ v'):=by
 obtain ⟨A',c',hv,-⟩:=o.slice
 have hlen : (d.weaks ++ [x]).length = d.weaks.length + 1:=by simp
 rw [hlen] at hv
 subst hv
 have hown : ∀ q,(Value.slice d.wa d.weaks.length d.wc).ownBlock = some q → bs < q ∧ H q = none:=fun q hq => ⟨by have:=(h.wk.lt hq).1; have:=h.b0; omega,h.nk q hq⟩
 have hb : W'.heap[ob]? = some (.cells #[.slice d.ka d.kinds.length d.kc,.int .i64 d.most,.slice d.wa d.weaks.length d.wc,.slice d.sa d.surs.length d.sc] 44 (0,0)):=(g1.block _ (lt_of_heap h.blk) (fun e => (h.wne e.symm).1 rfl)).trans h.blk
 have hr : W'.heap[rb]? = some (.cells #[.slice none 0 0,.int .i64 0,.slice none 0 0,.slice none 0 0] 44 (0,0)):=(g1.block _ (lt_of_heap h.res) (fun e => (h.wne e.symm).2 rfl)).trans h.res
 have hne : ∀ g,(Value.slice A' (d.weaks.length + 1) c').ownBlock = some g → g ≠ ob ∧ H g = none:=fun g e => by
  rcases at1 with a | ⟨g2,a,hg⟩
  ·rw [e] at a
   exact ⟨(h.wne a.symm).1,h.nk g a.symm⟩
  ·rw [e] at a
   injection a with a
   subst a
   exact ⟨by have:=lt_of_heap h.blk; omega,h.lw.fin.none_ (by omega)⟩
 have hsv : Orow W' W00.heap.size 210 3 fSur (.slice d.sa d.surs.length d.sc) d.surs:=h.sv.kept g1 (h.sv.ty_ne h.wk (by decide))
 refine ⟨cell_h hb 2 rfl,froz_h hb 2,A',c',rfl,⟨(h.lw.grown g1 hown).setCell (p:=⟨ob,2,none⟩) h.bo h.ho _,by simp [World.setCell,Array.getElem?_modify,hb],(Below.heap_setCell W' _ _ rb h.ne).trans hr,h.bo,h.br,h.ne,h.ho,h.hr,?_,h.le,h.old,h.lo,h.lr,h.b0,h.kin,?_,?_,?_,h.nv,h.src,⟨h.sz.k,by rw [hlen]; omega,?_,h.sz.u,h.sz.us⟩⟩⟩
 ·exact ⟨g1.os.trans h.gr.os,g1.tape.trans h.gr.tape,g1.output.trans h.gr.output,by have:=h.gr.size; have:=g1.size; simp [World.setCell]; omega,fun b hb2 hne2 => (Below.heap_setCell W' _ _ b (by have:=h.lo; show b ≠ ob; omega)).trans ((g1.block b (Nat.lt_of_lt_of_le hb2 h.gr.size) (fun e => by have:=(h.wk.lt e.symm).1; omega)).trans (h.gr.block b hb2 hne2))⟩
 ·rw [hlen]; exact o.beside (fun g e => (hne g e).1) 2 _
 ·exact hsv.beside (fun g e => (h.sne e).1) 2 _
 ·rw [hlen]; exact fun g e => (hne g e).2
 ·intro y hy
  rcases List.mem_append.1 hy with hy | hy
  ·exact h.sz.wt y hy
  ·simp at hy; rw [hy]; exact hz
theorem JM.newW (h : JM w bs K H0 H W00 ob rb d wr) {v' : Value} {ds : List IdD} (r : RG 55 2 fId w bs K' H wr v' ds W') (hz : ∀ x ∈ ds,x.text.size ≤ 1000000) (hl : ds.length ≤ 1000000) :
  W'.cell? ⟨ob,2,none⟩ = some (.slice d.wa d.weaks.length d.wc) ∧ W'.frozen? ⟨ob,2,none⟩ = false ∧ ∃ A' c',v' = .slice A' ds.length c' ∧ JM w bs K' H0 H W00 ob rb { d with wa:=A',weaks:=ds,wc:=c' } (W'.setCell ⟨ob,2,none⟩ v'):=by
 have h2:=h.asked r.lw r.2
 have o:=r.1.row
 obtain ⟨A',c',hv,-⟩:=o.slice
 subst hv
 have hs:=h.gr.size
 have hne : ∀ g,(Value.slice A' ds.length c').ownBlock = some g → g ≠ ob ∧ H g = none:=fun g e => by
  have:=(o.lt e).1
  exact ⟨by have:=lt_of_heap h.blk; omega,h.lw.fin.none_ this⟩
 refine ⟨cell_h h2.blk 2 rfl,froz_h h2.blk 2,A',c',rfl,⟨h2.lw.setCell (p:=⟨ob,2,none⟩) h.bo h.ho _,by simp [World.setCell,Array.getElem?_modify,h2.blk],(Below.heap_setCell W' _ _ rb h.ne).trans h2.res,h.bo,h.br,h.ne,h.ho,h.hr,?_,h.le,h.old,h.lo,h.lr,h.b0,h.kin,?_,?_,?_,h.nv,h.src,⟨h.sz.k,hl,hz,h.sz.u,h.sz.us⟩⟩⟩
 ·exact ⟨h2.gr.os,h2.gr.tape,h2.gr.output,by have:=h2.gr.size; simpa [World.setCell] using this,fun b hb hne => (Below.heap_setCell W' _ _ b (by have:=h.lo; show b ≠ ob; omega)).trans (h2.gr.block b hb hne)⟩
 ·exact (o.mono hs).beside (fun g e => (hne g e).1) 2 _
 ·exact h2.sv.beside (fun g e => (h2.sne e).1) 2 _
 ·exact fun g e => (hne g e).2
theorem JM.done (h : JM w bs K H0 H W00 ob rb d wr) : ∃ H',H0.Le H' ∧ (∀ b,b < W00.heap.size → H' b = H0 b) ∧ Lw w bs K H' wr ∧ RulIn H' d ∧ H' rb = none:=by
 obtain ⟨A1,c1,H1,e1,-,i1,l1,r1,o1⟩:=Orow.freezeN h.wk H
 injection e1 with e1 _ e2
 obtain ⟨A2,c2,H2,e3,-,i2,l2,r2,o2⟩:=Orow.freezeN h.sv H1
 injection e3 with e3 _ e4
 rw [← e1] at r1
 rw [← e3] at r2
 have hl1:=l1 h.nk
 have hn1 : ∀ g,(Value.slice d.sa d.surs.length d.sc).ownBlock = some g → H1 g = none:=fun g e => by
  refine (o1 g (fun c => ?_)).trans (h.nv g e)
  rcases h.sv.ty_ne h.wk (by decide) with q | q
  ·rw [q] at e; cases e
  ·exact q (e.trans c.symm)
 have hl2:=l2 hn1
 have b0:=h.b0
 have hat : ∀ b,b < W00.heap.size → H2 b = H b:=fun b hb => (o2 b (fun e => by have:=(h.sv.lt e).1; omega)).trans (o1 b (fun e => by have:=(h.wk.lt e).1; omega))
 refine ⟨H2,h.le.trans (hl1.trans hl2),fun b hb => (hat b hb).trans (h.old b hb),⟨h.lw.st,h.lw.bel,h.lw.le,i2 (i1 h.lw.fin),(hat bs b0).trans h.lw.apart⟩,⟨h.kin.le (hl1.trans hl2),r1.le hl2,r2,fun x hx => (h.src x hx).le (hl1.trans hl2)⟩,?_⟩
 exact (o2 rb (fun e => (h.sne e).2 rfl)).trans ((o1 rb (fun e => (h.wne e).2 rfl)).trans h.hr)
end
open Go.RowKit
def KV (bs B0 : Nat) (l : List Int) (x : Value) (W : World) : Prop:=∃ g,x = .slice (some ⟨g,0,none⟩) l.length l.length ∧ B0 ≤ g ∧ AtM bs W g (.cells (l.map (.int .i64)).toArray 3 (0,0))
def KX (bs B0 : Nat) (x : Value) (W : World) : Prop:=∃ l : List Int,l.length ≤ 4 ∧ KV bs B0 l x W
theorem KX.keep {bs B0 : Nat} {x : Value} {W W' : World} (h : KX bs B0 x W) (g : W.grownBy W' (some bs)) : KX bs B0 x W':=by
 obtain ⟨l,hl,q,h1,h2,h3⟩:=h
 exact ⟨l,hl,q,h1,h2,h3.keep g⟩
theorem KX.new {bs B0 : Nat} {W : World} (l : List Int) (hl : l.length ≤ 4) (hb : bs < W.heap.size) (h0 : B0 ≤ W.heap.size) (n : Nat) (hn : n = l.length) (cs : Array Value) (hc : cs = (l.map (.int .i64)).toArray) : KX bs B0 (.slice (some ⟨W.heap.size,0,none⟩) n n) (W.alloc (.cells cs 3)):=by
 subst hn hc
 exact ⟨l,hl,_,rfl,h0,AtM.new _ hb⟩
def KC (bs B0 g z : Nat) (W : World) : Prop:=g ≠ bs ∧ ∃ vs T v,W.heap[g]? = some (.cells vs T (0,0)) ∧ vs[z]? = some v ∧ KX bs B0 v W
theorem KC.keep {bs B0 g z : Nat} {W W' : World} (h : KC bs B0 g z W) (gr : W.grownBy W' (some bs)) : KC bs B0 g z W':=by
 obtain ⟨h1,vs,T,v,h2,h3,h4⟩:=h
 exact ⟨h1,vs,T,v,(gr.block _ (lt_of_heap h2) (fun e => by injection e with e; exact h1 e)).trans h2,h3,h4.keep gr⟩
theorem KC.cell {bs B0 g z : Nat} {W : World} (h : KC bs B0 g z W) : ∃ v,W.cell? ⟨g,z,none⟩ = some v ∧ KX bs B0 v W:=by
 obtain ⟨h1,vs,T,v,h2,h3,h4⟩:=h
 exact ⟨v,by simp [World.cell?,h2,h3],h4⟩
def IdsV (bs B0 : Nat) (x : Value) (ds : List IdD) (W : World) : Prop:=bs < B0 ∧ Orow W B0 55 2 fId x ds ∧ ds.length ≤ 2 ∧ IdsOk9 ds
def φJ (bs B0 : Nat) (i : Nat) (x : Value) (W : World) : Prop :=
 match i with
 | 0 => KX bs B0 x W
 | 1 => KX bs B0 x W
 | 2 => KX bs B0 x W
 | 3 => KX bs B0 x W
 | 4 => KX bs B0 x W
 | 5 => ∃ g,x = .slice (some ⟨g,0,none⟩) 5 5 ∧ ∀ z,z < 5 → KC bs B0 g z W
 | 6 => x = .pointer (some ⟨bs,0,none⟩)
 | 7 => ∃ z : Nat,x = .int .i64 (z : Int) ∧ z < 5
 | 8 => ∃ g z : Nat,x = .pointer (some ⟨g,z,none⟩) ∧ KC bs B0 g z W
 | 9 => KX bs B0 x W
 | 10 => x = .pointer (some ⟨bs,0,none⟩)
 | 11 => ∃ g,x = .slice (some ⟨g,0,none⟩) 4 4 ∧ AtM bs W g (.cells #[.int .i64 2,.int .i64 3,.int .i64 4,.int .i64 2000] 3 (0,0))
 | 12 => ∃ z : Int,x = .int .i64 z
 | 13 => x = .pointer (some ⟨bs,0,none⟩)
 | 14 => x = .pointer (some ⟨bs,0,none⟩)
 | 15 => ∃ g,x = .slice (some ⟨g,0,none⟩) 5 5 ∧ AtM bs W g (.cells #[.int .i64 0,.int .i64 0,.int .i64 0,.int .i64 1,.int .i64 2] 3 (0,0))
 | 16 => ∃ z : Nat,x = .int .i64 (z : Int) ∧ z ≤ 2
 | 17 => ∃ ds,IdsV bs B0 x ds W
 | 18 => ∃ (xk : Value) (z : Int) (xw : Value) (ds : List IdD),x = .agg #[xk,.int .i64 z,xw,.slice none 0 0] ∧ KX bs B0 xk W ∧ IdsV bs B0 xw ds W
 | _ => ∃ g,x = .pointer (some ⟨g,0,none⟩) ∧ B0 ≤ g ∧ AtM bs W g (.cells #[.slice none 0 0,.int .i64 0,.slice none 0 0,.slice none 0 0] 44 (0,0))
theorem IdsV.keep {bs B0 : Nat} {x : Value} {ds : List IdD} {W W' : World} (h : IdsV bs B0 x ds W) (g : W.grownBy W' (some bs)) : IdsV bs B0 x ds W':=⟨h.1,h.2.1.far g h.1,h.2.2⟩
theorem φJ_mono {bs B0 : Nat} (i : Nat) (x : Value) (W W' : World) (_ : i < 20) (he : W.grownBy W' (some bs)) (h : φJ bs B0 i x W) : φJ bs B0 i x W':=by
 match i with
 | 0 => exact KX.keep h he
 | 1 => exact KX.keep h he
 | 2 => exact KX.keep h he
 | 3 => exact KX.keep h he
 | 4 => exact KX.keep h he
 | 5 => obtain ⟨g,h1,h2⟩:=h; exact ⟨g,h1,fun z hz => (h2 z hz).keep he⟩
 | 6 => exact h
 | 7 => exact h
 | 8 => obtain ⟨g,z,h1,h2⟩:=h; exact ⟨g,z,h1,h2.keep he⟩
 | 9 => exact KX.keep h he
 | 10 => exact h
 | 11 => obtain ⟨g,h1,h2⟩:=h; exact ⟨g,h1,h2.keep he⟩
 | 12 => exact h
 | 13 => exact h
 | 14 => exact h
 | 15 => obtain ⟨g,h1,h2⟩:=h; exact ⟨g,h1,h2.keep he⟩
 | 16 => exact h
 | 17 => obtain ⟨ds,h1⟩:=h; exact ⟨ds,h1.keep he⟩
 | 18 => obtain ⟨a,b,c,ds,h1,h2,h3⟩:=h; exact ⟨a,b,c,ds,h1,h2.keep he,h3.keep he⟩
 | n + 19 => obtain ⟨g,h1,h2,h3⟩:=h; exact ⟨g,h1,h2,h3.keep he⟩
structure JW (w : World) (bs K : Nat) (H : Frz) (W1 : World) (n : Nat) (W' : World) : Prop where
 lw : Lw w bs (K + 70 * n) H W'
 g : W1.grownBy W' (some bs)
theorem JW.stay {w W1 W' : World} {bs K n : Nat} {H : Frz} (h : JW w bs K H W1 n W') : JW w bs K H W1 (n + 1) W':=⟨h.lw.more (by omega),h.g⟩
theorem JW.asked {w W1 W' W2 : World} {bs K n k : Nat} {H : Frz} (h : JW w bs K H W1 n W') (L : Lw w bs (K + 70 * n + k) H W2) (hk : k ≤ 70) (g : W'.grownBy W2 (some bs)) : JW w bs K H W1 (n + 1) W2:=⟨L.more (by omega),vm_then h.g g⟩
theorem JW.alloc {w W1 W' : World} {bs K n : Nat} {H : Frz} (h : JW w bs K H W1 n W') (o : Obj) : JW w bs K H W1 (n + 1) (W'.alloc o):=⟨(h.lw.alloc o).more (by omega),vm_then h.g (grown_alloc _ _)⟩
theorem js_set4 {wr : World} {r : Nat} {T : TypeId} {a0 a1 a2 a3 : Value} (h : wr.heap[r]? = some (.cells #[a0,a1,a2,a3] T (0,0))) (v0 v1 v2 v3 : Value) :
  wr.grownBy ((((wr.setCell ⟨r,0,none⟩ v0).setCell ⟨r,1,none⟩ v1).setCell ⟨r,2,none⟩ v2).setCell ⟨r,3,none⟩ v3) (some r) ∧ ((((wr.setCell ⟨r,0,none⟩ v0).setCell ⟨r,1,none⟩ v1).setCell ⟨r,2,none⟩ v2).setCell ⟨r,3,none⟩ v3).heap[r]? = some (.cells #[v0,v1,v2,v3] T (0,0)) :=
 ⟨vm_setc (vm_setc (vm_setc (vm_setc (World.grownBy.refl wr (some r)) 0 v0) 1 v1) 2 v2) 3 v3,ms_set4 h v0 v1 v2 v3⟩
theorem JM.start {w W W1 W5 : World} {bs K n : Nat} {H : Frz} (hb : bs < W.heap.size) (h0 : W1.heap[W.heap.size]? = some (.cells #[.slice none 0 0,.int .i64 0,.slice none 0 0,.slice none 0 0] 44 (0,0))) (hg0 : W.grownBy W1 (some bs)) (hH : H.In W1) (hr : H W.heap.size = none) (h : JW w bs K H W1 n W5)
  {xk xw : Value} {z : Int} {ds : List IdD} (hk : KX bs W1.heap.size xk W5) (hw : IdsV bs W1.heap.size xw ds W5) {g : Nat} (hg : W1.heap.size ≤ g) (ha : AtM bs W5 g (.cells #[.slice none 0 0,.int .i64 0,.slice none 0 0,.slice none 0 0] 44 (0,0))) :
  ∃ (H' : Frz) (d : RulD),xk = .slice d.ka d.kinds.length d.kc ∧ z = d.most ∧ xw = .slice d.wa d.weaks.length d.wc ∧ d.sa = none ∧ d.surs = [] ∧ d.sc = 0 ∧ d.weaks.length ≤ 2 ∧
   JM w bs (K + 70 * n) H H' W g W.heap.size d ((((W5.setCell ⟨g,0,none⟩ xk).setCell ⟨g,1,none⟩ (.int .i64 z)).setCell ⟨g,2,none⟩ xw).setCell ⟨g,3,none⟩ (.slice none 0 0)):=by
 obtain ⟨l,hl,q,rfl,hq,hat⟩:=hk
 obtain ⟨-,hrow,hdl,hok⟩:=hw
 obtain ⟨A,c,hv,-⟩:=hrow.slice
 have hn : H q = none:=hH.none_ hq
 have hng : H g = none:=hH.none_ hg
 have hle:=Frz.le_add (o:=(.cells (l.map (.int .i64)).toArray 3 (0,0) : Obj)) hn
 have hs:=lt_of_heap h0
 have hr5 : W5.heap[W.heap.size]? = some (.cells #[.slice none 0 0,.int .i64 0,.slice none 0 0,.slice none 0 0] 44 (0,0)):=(h.g.block _ hs (fun e => by injection e with e; omega)).trans h0
 have hqg : q ≠ g:=ty_ne hat.2 ha.2 (by decide)
 obtain ⟨g4,hb4⟩:=js_set4 ha.2 (.slice (some ⟨q,0,none⟩) l.length l.length) (.int .i64 z) xw (.slice none 0 0)
 have hown : ∀ b,xw.ownBlock = some b → b ≠ g ∧ b ≠ q ∧ H b = none:=fun b e => by
  obtain ⟨cc,hc⟩:=hrow.own_blk e
  exact ⟨ty_ne hc ha.2 (by decide),ty_ne hc hat.2 (by decide),hH.none_ (hrow.lt e).1⟩
 have hrow4:=hrow.kept g4 (by
  cases e : xw.ownBlock with
  | none => exact Or.inl rfl
  | some b => right; intro cc; injection cc with cc; exact (hown b e).1 cc)
 have L4:=h.lw.grown g4 (fun b e => by injection e with e; subst e; exact ⟨by omega,hng⟩)
 have hq4:=(g4.block _ (lt_of_heap hat.2) (fun e => by injection e with e; exact hqg e)).trans hat.2
 subst hv
 refine ⟨H.add q (.cells (l.map (.int .i64)).toArray 3 (0,0)),⟨some ⟨q,0,none⟩,l.length,l,z,A,c,ds,none,0,[]⟩,rfl,rfl,rfl,rfl,rfl,rfl,hdl,?_⟩
 have hgW : W.heap.size ≤ g:=by omega
 refine ⟨L4.keep hq4 (by omega),hb4,(g4.block _ (lt_of_heap hr5) (fun e => by injection e with e; omega)).trans hr5,by omega,by omega,by omega,?_,?_,?_,hle,?_,by omega,Nat.le_refl _,hb,?_,hrow4.mono (by omega),Orow.nil _ _ _ _ _,?_,(fun b e => by cases e),(fun x hx => by cases hx),⟨by show l.length ≤ _; omega,by show ds.length ≤ _; omega,fun x hx => by have:=hok x hx; omega,by show (0 : Nat) ≤ _; omega,fun x hx => by cases hx⟩⟩
 ·rw [Frz.add_other (fun e => hqg e.symm)]; exact hng
 ·rw [Frz.add_other (by omega)]; exact hr
 ·have g5:=vm_then hg0 h.g
  exact ⟨g4.os.trans g5.os,g4.tape.trans g5.tape,g4.output.trans g5.output,Nat.le_trans g5.size g4.size,fun b hb2 hne => (g4.block b (Nat.lt_of_lt_of_le hb2 g5.size) (fun e => by injection e with e; omega)).trans (g5.block b hb2 hne)⟩
 ·intro b hb2
  exact Frz.add_other (by omega)
 ·intro i hi
  refine ⟨q,0,rfl,fun j hj => ?_⟩
  have : j = 0:=by omega
  subst this
  unfold Frz.cell?
  simp [Frz.add_at,fI,hi]
 ·intro b e
  have:=hown b e
  rw [Frz.add_other this.2.1]
  exact this.2.2
open Go.RowKit
theorem rw_str {H : Frz} {q : Nat} {T : TypeId} (ss : List ByteArray) {cs : Array Value} (hc : cs = (ss.map Value.string).toArray) (h : H q = some (.cells cs T (0,0))) : Rw H (some ⟨q,0,none⟩) 1 fS ss:=by
 subst hc
 intro i hi
 refine ⟨q,0,rfl,fun j hj => ?_⟩
 have : j = 0:=by omega
 subst this
 simp [Frz.cell?,h,fS,hi]
theorem rw_int {H : Frz} {q : Nat} {T : TypeId} (ss : List Int) {cs : Array Value} (hc : cs = (ss.map (Value.int .i64)).toArray) (h : H q = some (.cells cs T (0,0))) : Rw H (some ⟨q,0,none⟩) 1 fI ss:=by
 subst hc
 intro i hi
 refine ⟨q,0,rfl,fun j hj => ?_⟩
 have : j = 0:=by omega
 subst this
 simp [Frz.cell?,h,fI,hi]
section
variable {w wr W' W00 : World} {bs K K' ob rb xb : Nat} {H0 H : Frz} {d : RulD} {s : SurD}
theorem JM.put2 (h : JM w bs K H0 H W00 ob rb d wr) (o : Obj) : JM w bs K H0 (H.add wr.heap.size o) W00 ob rb d (wr.alloc o):=by
 have hl:=Frz.le_add (o:=o) (h.lw.fin.none_ (Nat.le_refl _))
 have hs:=h.gr.size
 refine (h.alloc o).laid hl ((h.lw.alloc o).keep (heap_at rfl) (by have:=h.lw.lt; omega)) (fun b hb => Frz.add_other (by omega)) ?_ ?_ ?_ ?_
 ·rw [Frz.add_other (by have:=lt_of_heap h.blk; omega)]; exact h.ho
 ·rw [Frz.add_other (by have:=lt_of_heap h.res; omega)]; exact h.hr
 ·intro g hg
  rw [Frz.add_other (by have:=(h.wk.lt hg).2; omega)]; exact h.nk g hg
 ·intro g hg
  rw [Frz.add_other (by have:=(h.sv.lt hg).2; omega)]; exact h.nv g hg
theorem JM.side (h : JM w bs K H0 H W00 ob rb d wr) (h1 : bs < xb) (h2 : H xb = none) (h3 : xb ≠ ob) (h4 : xb ≠ rb) (h5 : W00.heap.size ≤ xb) (h6 : ∀ g,(Value.slice d.wa d.weaks.length d.wc).ownBlock = some g → g ≠ xb) (h7 : ∀ g,(Value.slice d.sa d.surs.length d.sc).ownBlock = some g → g ≠ xb) (j : Nat) (x : Value) :
  JM w bs K H0 H W00 ob rb d (wr.setCell ⟨xb,j,none⟩ x) :=
 { h with
  lw:=h.lw.setCell (p:=⟨xb,j,none⟩) h1 h2 x
  blk:=(Below.heap_setCell wr _ _ ob (fun e => h3 e.symm)).trans h.blk
  res:=(Below.heap_setCell wr _ _ rb (fun e => h4 e.symm)).trans h.res
  gr:=⟨h.gr.os,h.gr.tape,h.gr.output,by have:=h.gr.size; simpa [World.setCell] using this,fun b hb hne => (Below.heap_setCell wr _ _ b (by show b ≠ xb; omega)).trans (h.gr.block b hb hne)⟩
  wk:=h.wk.beside h6 j x
  sv:=h.sv.beside h7 j x }
structure SX (w : World) (bs K : Nat) (H0 H : Frz) (W00 : World) (ob rb : Nat) (d : RulD) (xb : Nat) (s : SurD) (wr : World) : Prop where
 m : JM w bs K H0 H W00 ob rb d wr
 blk : wr.heap[xb]? = some (.cells #[.string s.name,.int .i64 s.how,.slice s.sa s.srcs.length s.sc] 210 (0,0))
 bx : bs < xb
 hx : H xb = none
 no : xb ≠ ob
 nr : xb ≠ rb
 lx : W00.heap.size ≤ xb
 nw : ∀ g,(Value.slice d.wa d.weaks.length d.wc).ownBlock = some g → g ≠ xb
 ns : ∀ g,(Value.slice d.sa d.surs.length d.sc).ownBlock = some g → g ≠ xb
 src : Rw H s.sa 1 fS s.srcs
 sz : SzS s
theorem SX.new (h : JM w bs K H0 H W00 ob rb d wr) (nm : ByteArray) (z : Int) (hn : nm.size ≤ 1000000) : SX w bs K H0 H W00 ob rb d wr.heap.size ⟨nm,z,none,0,[]⟩ (wr.alloc (.cells #[.string nm,.int .i64 z,.slice none 0 0] 210)) :=
 ⟨h.alloc _,heap_at rfl,h.lw.lt,h.lw.fin.none_ (Nat.le_refl _),fun e => by have:=lt_of_heap h.blk; omega,fun e => by have:=lt_of_heap h.res; omega,h.gr.size,fun g hg => by have:=(h.wk.lt hg).2; omega,fun g hg => by have:=(h.sv.lt hg).2; omega,Rw.nil,⟨hn,by show (0 : Nat) ≤ _; omega,Nat.le_refl _,(fun x hx => by cases hx)⟩⟩
theorem SX.more (h : SX w bs K H0 H W00 ob rb d xb s wr) (hK : K ≤ K') : SX w bs K' H0 H W00 ob rb d xb s wr:=⟨h.m.more hK,h.blk,h.bx,h.hx,h.no,h.nr,h.lx,h.nw,h.ns,h.src,h.sz⟩
theorem SX.asked (h : SX w bs K H0 H W00 ob rb d xb s wr) (L : Lw w bs K' H W') (g : wr.grownBy W' (some bs)) : SX w bs K' H0 H W00 ob rb d xb s W' :=
 ⟨h.m.asked L g,(g.block _ (lt_of_heap h.blk) (fun e => by injection e with e; have:=h.bx; omega)).trans h.blk,h.bx,h.hx,h.no,h.nr,h.lx,h.nw,h.ns,h.src,h.sz⟩
theorem SX.alloc (h : SX w bs K H0 H W00 ob rb d xb s wr) (o : Obj) : SX w bs K H0 H W00 ob rb d xb s (wr.alloc o) :=
 ⟨h.m.alloc o,(heap_lt (lt_of_heap h.blk)).trans h.blk,h.bx,h.hx,h.no,h.nr,h.lx,h.nw,h.ns,h.src,h.sz⟩
theorem SX.put (h : SX w bs K H0 H W00 ob rb d xb s wr) (o : Obj) : SX w bs K H0 (H.add wr.heap.size o) W00 ob rb d xb s (wr.alloc o) :=
 ⟨h.m.put2 o,(heap_lt (lt_of_heap h.blk)).trans h.blk,h.bx,by rw [Frz.add_other (by have:=lt_of_heap h.blk; omega)]; exact h.hx,h.no,h.nr,h.lx,h.nw,h.ns,h.src.le (Frz.le_add (h.m.lw.fin.none_ (Nat.le_refl _))),h.sz⟩
theorem SX.setSrc (h : SX w bs K H0 H W00 ob rb d xb s wr) (A : Option Addr) (c : Nat) (ss : List ByteArray) (hR : Rw H A 1 fS ss) (hl : ss.length ≤ c) (h4 : ss.length ≤ 1000000) (hz : ∀ x ∈ ss,x.size ≤ 1000000) : SX w bs K H0 H W00 ob rb d xb { s with sa:=A,srcs:=ss,sc:=c } (wr.setCell ⟨xb,2,none⟩ (.slice A ss.length c)) :=
 ⟨h.m.side h.bx h.hx h.no h.nr h.lx h.nw h.ns 2 _,by simp [World.setCell,Array.getElem?_modify,h.blk],h.bx,h.hx,h.no,h.nr,h.lx,h.nw,h.ns,hR,⟨h.sz.1,h4,hl,hz⟩⟩
end
theorem sizeKM {l : List ByteArray} {s : ByteArray} (h : s ∈ l) (hl : l.all (fun s => decide (s.size ≤ 1000)) = true) : s.size ≤ 1000000:=by have:=sizeK h hl; omega
def φY (bs ob : Nat) (d : RulD) (i : Nat) (x : Value) (W : World) : Prop :=
 match i with
 | 0 => x = .pointer (some ⟨ob,3,none⟩)
 | 1 => x = .slice d.sa d.surs.length d.sc
 | 2 => x = .pointer (some ⟨bs,0,none⟩)
 | 3 => ∃ g,x = .slice (some ⟨g,0,none⟩) 3 3 ∧ AtM bs W g (.cells #[.string ⟨#[]⟩,.string ⟨#[97,103,101]⟩,.string ⟨#[122,111,111]⟩] 9 (0,0))
 | 4 => ∃ s : ByteArray,x = .string s ∧ s.size ≤ 1000
 | 5 => x = .pointer (some ⟨bs,0,none⟩)
 | 6 => ∃ z : Int,x = .int .i64 z
 | 7 => ∃ (s : ByteArray) (z : Int),x = .agg #[.string s,.int .i64 z,.slice none 0 0] ∧ s.size ≤ 1000
 | _ => ∃ (g : Nat) (s : ByteArray) (z : Int),x = .slice (some ⟨g,0,none⟩) 1 1 ∧ AtM bs W g (.cells #[.string s,.int .i64 z,.slice none 0 0] 210 (0,0)) ∧ s.size ≤ 1000
theorem φY_mono {bs ob : Nat} {d : RulD} (i : Nat) (x : Value) (W W' : World) (_ : i < 9) (he : W.grownBy W' (some bs)) (h : φY bs ob d i x W) : φY bs ob d i x W':=by
 match i with
 | 0 => exact h
 | 1 => exact h
 | 2 => exact h
 | 3 => obtain ⟨g,h1,h2⟩:=h; exact ⟨g,h1,h2.keep he⟩
 | 4 => exact h
 | 5 => exact h
 | 6 => exact h
 | 7 => exact h
 | n + 8 => obtain ⟨g,s1,z,h1,h2,h3⟩:=h; exact ⟨g,s1,z,h1,h2.keep he,h3⟩
def φZ (bs ob B0 : Nat) (d : RulD) (i : Nat) (x : Value) (W : World) : Prop :=
 match i with
 | 0 => x = .pointer (some ⟨ob,3,none⟩)
 | 1 => x = .slice d.sa d.surs.length d.sc
 | 2 => x = .pointer (some ⟨bs,0,none⟩)
 | 3 => ∃ z : Int,x = .int .i64 z
 | 4 => x = .pointer (some ⟨bs,0,none⟩)
 | 5 => ∃ g,x = .slice (some ⟨g,0,none⟩) 2 2 ∧ AtM bs W g (.cells #[.string ⟨#[97]⟩,.string ⟨#[66]⟩] 9 (0,0))
 | 6 => ∃ s : ByteArray,x = .string s ∧ s.size ≤ 1000
 | 7 => x = .pointer (some ⟨bs,0,none⟩)
 | 8 => ∃ g,x = .slice (some ⟨g,0,none⟩) 2 2 ∧ AtM bs W g (.cells #[.string ⟨#[97]⟩,.string ⟨#[98]⟩] 9 (0,0))
 | 9 => ∃ s : ByteArray,x = .string s ∧ s.size ≤ 1000
 | 10 => ∃ (g : Nat) (s1 s2 : ByteArray),x = .slice (some ⟨g,0,none⟩) 2 2 ∧ B0 ≤ g ∧ AtM bs W g (.cells #[.string s1,.string s2] 9 (0,0)) ∧ s1.size ≤ 1000 ∧ s2.size ≤ 1000
 | 11 => ∃ (z : Int) (g : Nat) (s1 s2 : ByteArray),x = .agg #[.string ⟨#[122,111,111]⟩,.int .i64 z,.slice (some ⟨g,0,none⟩) 2 2] ∧ B0 ≤ g ∧ AtM bs W g (.cells #[.string s1,.string s2] 9 (0,0)) ∧ s1.size ≤ 1000 ∧ s2.size ≤ 1000
 | _ => ∃ (q : Nat) (z : Int) (g : Nat) (s1 s2 : ByteArray),x = .slice (some ⟨q,0,none⟩) 1 1 ∧ AtM bs W q (.cells #[.string ⟨#[122,111,111]⟩,.int .i64 z,.slice (some ⟨g,0,none⟩) 2 2] 210 (0,0)) ∧ B0 ≤ g ∧ AtM bs W g (.cells #[.string s1,.string s2] 9 (0,0)) ∧ s1.size ≤ 1000 ∧ s2.size ≤ 1000
theorem φZ_mono {bs ob B0 : Nat} {d : RulD} (i : Nat) (x : Value) (W W' : World) (_ : i < 13) (he : W.grownBy W' (some bs)) (h : φZ bs ob B0 d i x W) : φZ bs ob B0 d i x W':=by
 match i with
 | 0 => exact h
 | 1 => exact h
 | 2 => exact h
 | 3 => exact h
 | 4 => exact h
 | 5 => obtain ⟨g,h1,h2⟩:=h; exact ⟨g,h1,h2.keep he⟩
 | 6 => exact h
 | 7 => exact h
 | 8 => obtain ⟨g,h1,h2⟩:=h; exact ⟨g,h1,h2.keep he⟩
 | 9 => exact h
 | 10 => obtain ⟨g,s1,s2,h1,h2,h3,h4⟩:=h; exact ⟨g,s1,s2,h1,h2,h3.keep he,h4⟩
 | 11 => obtain ⟨z,g,s1,s2,h1,h2,h3,h4⟩:=h; exact ⟨z,g,s1,s2,h1,h2,h3.keep he,h4⟩
 | n + 12 => obtain ⟨q,z,g,s1,s2,h1,h2,h3,h4,h5⟩:=h; exact ⟨q,z,g,s1,s2,h1,h2.keep he,h3,h4.keep he,h5⟩
theorem JM.keepS {w wr W00 : World} {bs K ob rb g : Nat} {H0 H : Frz} {d : RulD} (h : JM w bs K H0 H W00 ob rb d wr) {cs : Array Value} (hat : AtM bs wr g (.cells cs 9 (0,0))) (hb : W00.heap.size ≤ g) (hn : H g = none) :
  JM w bs K H0 (H.add g (.cells cs 9 (0,0))) W00 ob rb d wr ∧ H.Le (H.add g (.cells cs 9 (0,0))):=by
 have hl:=Frz.le_add (o:=(.cells cs 9 (0,0) : Obj)) hn
 refine ⟨h.laid hl (h.lw.keep hat.2 hat.1) (fun b hb2 => Frz.add_other (by omega)) ?_ ?_ ?_ ?_,hl⟩
 ·rw [Frz.add_other (fun e => ty_ne h.blk hat.2 (by decide) e)]; exact h.ho
 ·rw [Frz.add_other (fun e => ty_ne h.res hat.2 (by decide) e)]; exact h.hr
 ·intro q hq
  obtain ⟨c,hc⟩:=h.wk.own_blk hq
  rw [Frz.add_other (ty_ne hc hat.2 (by decide))]; exact h.nk q hq
 ·intro q hq
  obtain ⟨c,hc⟩:=h.sv.own_blk hq
  rw [Frz.add_other (ty_ne hc hat.2 (by decide))]; exact h.nv q hq
end Go.Proofs.YtbidhpgjmcedaaaGreatDoor
