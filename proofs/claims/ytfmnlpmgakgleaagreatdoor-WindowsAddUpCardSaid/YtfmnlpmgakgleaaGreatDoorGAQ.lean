/- Texts of this claim, put together: PutR, IG, Tab, Dist, NormP, BytesW. -/
import Derived.Test.YtfmnlpmgakgleaaGreatDoorGAC
import Derived.Test.YtfmnlpmgakgleaaGreatDoorGAH
import Derived.Test.YtfmnlpmgakgleaaGreatDoorGAG
import Derived.Test.YtfmnlpmgakgleaaGreatDoorGAB
import Derived.StillTailTactics
import Derived.Deep.Cut
import Derived.Test.YtfmnlpmgakgleaaGreatDoorGAF
import Derived.Lib.IndexBytes
import Derived.Lib.TrimByte
import Derived.Laws.IdiomStrings
namespace Go.Proofs.YtfmnlpmgakgleaaGreatDoor
set_option linter.unusedVariables false
open Go.RowKit
theorem Frz.In.put {H:Frz} {w:World} (h:H.In w) (o:Obj):∃ H',H.Le H' ∧ H' w.heap.size = some o ∧ H'.In (w.alloc o) :=
 ⟨H.add w.heap.size o,Frz.le_add (h.none_ (Nat.le_refl _)),Frz.add_at _ _ _,(h.alloc o).add (heap_at rfl)⟩
theorem Rw.take {D:Type} {H:Frz} {A:Option Addr} {k:Nat} {f:D → Nat → Value} {ds:List D} (h:Rw H A k f ds) (n:Nat):Rw H A k f (ds.take n):=fun i hi => by
 have hi':i < ds.length:=by simp at hi;omega
 obtain ⟨b,off,e,hc⟩:=h i hi'
 refine ⟨b,off,e,fun j hj => ?_⟩
 rw [hc j hj,List.getElem_take]
open Go.RowKit
structure IG {D:Type} (T k:Nat) (f:D → Nat → Value) (H:Frz) (B:Nat) (v:Value) (ds:List D) (w W:World):Prop where
 inn:H.In W
 row:Orow W B T k f v ds
 own:∀ g,v.ownBlock = some g → H g = none
 bel:Below w.heap.size w W
 hB:w.heap.size ≤ B
 le:B ≤ W.heap.size
section
variable {D:Type} {T k:Nat} {f:D → Nat → Value} {H:Frz} {B:Nat} {v v':Value} {ds ds':List D} {w W W':World}
theorem IG.below (h:IG T k f H B v ds w W) (hb:Below W.heap.size W W'):IG T k f H B v ds w W' :=
 ⟨h.inn.below hb,h.row.below hb,h.own,h.bel.trans (hb.mono h.bel.size),h.hB,Nat.le_trans h.le hb.size⟩
theorem IG.app (h:IG T k f H B v ds w W) (o:Orow W' B T k f v' ds') (g1:W.grownBy W' v.ownBlock) (at1:v'.ownBlock = v.ownBlock ∨ ∃ g,v'.ownBlock = some g ∧ W.heap.size < g):IG T k f H B v' ds' w W' :=
 ⟨h.inn.grown' g1 h.own,o,(fun q hq => by
  rcases at1 with e | ⟨g,e,hg⟩
  ·exact h.own q (by rw [← e];exact hq)
  ·rw [e] at hq;injection hq with hq;exact h.inn.none_ (by omega)),h.bel.grown g1 h.bel.size (fun g hg => Nat.le_trans h.hB (h.row.lt hg).1),h.hB,Nat.le_trans h.le g1.size⟩
theorem IG.put (h:IG T k f H B v ds w W) (o:Obj):∃ H',H.Le H' ∧ H' W.heap.size = some o ∧ IG T k f H' B v ds w (W.alloc o):=by
 have h2:=h.below (new1 o)
 refine ⟨H.add W.heap.size o,Frz.le_add (h.inn.none_ (Nat.le_refl _)),Frz.add_at _ _ _,h2.inn.add (heap_at rfl),h2.row,fun g hg => ?_,h2.bel,h2.hB,h2.le⟩
 rw [Frz.add_other (by have:=(h.row.lt hg).2;omega)]
 exact h.own g hg
theorem IG.upd {go capg n:Nat} (h:IG T k f H B (.slice (some ⟨go,0,none⟩) n capg) ds w W) (hn:n = ds.length) {p:Nat} (hp:p < ds.length) {j:Nat} (hj:j < k) (d':D) {x:Value} (hx:f d' j = x) (ho:∀ m,m < k → m ≠ j → f d' m = f ds[p] m) :
  W.cell? ⟨go,p * k + j,none⟩ = some (f ds[p] j) ∧ W.frozen? ⟨go,p * k + j,none⟩ = false ∧ IG T k f H B (.slice (some ⟨go,0,none⟩) n capg) (ds.set p d') w (W.setCell ⟨go,p * k + j,none⟩ x):=by
 subst hn
 have hne:ds ≠ []:=by intro e;rw [e] at hp;simp at hp
 obtain ⟨g',cap',rest,hv,hle',hB',hlt,hm',hblk,hr⟩:=h.row.form hne
 injection hv with e1 _ e2
 injection e1 with e1
 injection e1 with e1
 subst e1 e2
 have hnone:H go = none:=h.own go rfl
 refine ⟨hblk.cell p j hp hj,hblk.frozen _,h.inn.setCell (p:=⟨go,p * k + j,none⟩) hnone _,?_,h.own,h.bel.setCell (show w.heap.size ≤ go from Nat.le_trans h.hB hB') _,h.hB,by have:=h.le;simpa [World.setCell] using this⟩
 have:=Orow.of_blk (B:=B) (hblk.upd p j hp hj hx ho) hB' hm' (by simpa using hle') (by simpa using hr)
 simpa using this
end
open Go.RowKit
def tab (n:Nat) (F:Nat → Int):List Int:=(List.range n).map F
theorem tab_len (n:Nat) (F:Nat → Int):(tab n F).length = n:=by simp [tab]
theorem tab_get {n:Nat} {F:Nat → Int} {i:Nat} (h:i < (tab n F).length):(tab n F)[i] = F i:=by simp [tab]
theorem tab_get? {n:Nat} {F:Nat → Int} {i:Nat} (h:i < n):(tab n F)[i]? = some (F i):=by simp [tab,h]
theorem tab_congr {n:Nat} {F G:Nat → Int} (h:∀ k,k < n → F k = G k):tab n F = tab n G:=by
 unfold tab
 exact List.map_congr_left fun k hk => h k (List.mem_range.1 hk)
theorem tab_set {n:Nat} {F:Nat → Int} {i:Nat} (x:Int):(tab n F).set i x = tab n fun k => if k = i then x else F k:=by
 apply List.ext_getElem?
 intro k
 rw [List.getElem?_set]
 by_cases h:k < n
 ·have e1:=tab_get? (F:=F) h
  have e2:=tab_get? (F:=fun k => if k = i then x else F k) h
  rw [e1,e2,tab_len]
  by_cases e:i = k
  ·subst e
   simp [h]
  ·simp [e,show ¬ k = i from fun c => e c.symm]
 ·have e1:(tab n F)[k]? = none:=List.getElem?_eq_none (by rw [tab_len];omega)
  have e2:(tab n fun k => if k = i then x else F k)[k]? = none:=List.getElem?_eq_none (by rw [tab_len];omega)
  rw [e1,e2,tab_len]
  by_cases e:i = k
  ·subst e
   simp [h]
  ·simp [e]
theorem made_ints {w:World} {B g n:Nat} (h:w.ownsRow B 3 1 (.slice (some ⟨g,0,none⟩) n n) n (madeCells (Value.int .i64 0).cells (n * 1)).toList):KBlk w g 3 1 fI (tab n fun _ => 0) []:=by
 rcases h.2 with ⟨h1,_⟩ | ⟨g',cap,cur,hv,hB,hh,hle,hm,hs,ht⟩
 ·cases h1
 ·injection hv with e1 e2 e3
  injection e1 with e1
  injection e1 with e1
  subst e1 e3
  unfold KBlk
  rw [hh]
  have h2:cur.toList = (madeCells (Value.int .i64 0).cells (n * 1)).toList:=by
   rw [← ht,List.take_of_length_le (by simp [hs])]
  have h3:(madeCells (Value.int .i64 0).cells (n * 1)).toList = List.replicate (n * 1) (.int .i64 0):=toList_madeCells_one _ _
  rw [h3] at h2
  have h4:cellsOf 1 fI (tab n fun _ => 0) = List.replicate (n * 1) (.int .i64 0):=by
   rw [cellsOf_fI,Nat.mul_one]
   apply List.ext_getElem?
   intro k
   by_cases hk:k < n
   ·simp [tab,hk]
   ·rw [List.getElem?_eq_none (by simp [tab];omega),List.getElem?_eq_none (by simp;omega)]
  rw [h4,List.append_nil,← h2]
structure TabS (H:Frz) (w:World) (g n:Nat) (F:Nat → Int) (W:World):Prop where
 inn:H.In W
 bel:Below w.heap.size w W
 blk:KBlk W g 3 1 fI (tab n F) []
 ge:w.heap.size ≤ g
 no:H g = none
section
variable {H:Frz} {w W W':World} {g n:Nat} {F G:Nat → Int}
theorem TabS.cell (h:TabS H w g n F W) (i:Nat) (hi:i < n):W.cell? ⟨g,i,none⟩ = some (.int .i64 (F i)):=by
 have:=h.blk.cell1 i (by rw [tab_len];exact hi)
 rw [tab_get] at this
 exact this
theorem TabS.froz (h:TabS H w g n F W) (i:Nat):W.frozen? ⟨g,i,none⟩ = false:=h.blk.frozen i
theorem TabS.set (h:TabS H w g n F W) (i:Nat) (hi:i < n) (x:Int):TabS H w g n (fun k => if k = i then x else F k) (W.setCell ⟨g,i,none⟩ (.int .i64 x)):=by
 have hg:=h.ge
 refine ⟨h.inn.setCell (p:=⟨g,i,none⟩) h.no _,h.bel.setCell (p:=⟨g,i,none⟩) hg _,?_,h.ge,h.no⟩
 have:=h.blk.set1 i (by rw [tab_len];exact hi) x
 rw [tab_set] at this
 exact this
theorem TabS.congr (h:TabS H w g n F W) (e:∀ k,k < n → F k = G k):TabS H w g n G W:=⟨h.inn,h.bel,by have:=h.blk;rw [tab_congr e] at this;exact this,h.ge,h.no⟩
theorem TabS.call (h:TabS H w g n F W) (hb:Below W.heap.size W W'):TabS H w g n F W':=⟨h.inn.below hb,h.bel.trans (hb.mono h.bel.size),h.blk.keep hb,h.ge,h.no⟩
end
open Go.RowKit
open Go.RowKit
theorem ba_ext {a b:ByteArray} (h:a.data.toList = b.data.toList):a = b:=by
 cases a with
 | mk x => cases b with
  | mk y => simp at h;simp [h]
theorem allB_mem {p:UInt8 → Bool} {s:ByteArray} (h:allB p s = true):∀ c ∈ s.data.toList,p c = true:=by
 unfold allB at h
 exact List.all_eq_true.1 h
open Go.RowKit
theorem infoByte:(Tryz.prog.info? 5).map (fun i => (i.zero,i.size,i.bytes)) = some (some (.int .u8 0),1,1):=by kernel_rfl
def vb (c:UInt8):Value:=.int .u8 (c.toNat:Int)
theorem own_bytes {w:World} {B:Nat} {v:Value} {l:List UInt8} (h:w.ownsRow B 5 1 v l.length (l.map vb)) (h0:0 < l.length) :
  (convert 143 9 v).run Tryz.prog w = .ok (.string ⟨l.toArray⟩) w:=by
 rcases h.2 with ⟨_,hn⟩ | ⟨g,cap,cur,rfl,_,hh,hle,_⟩
 ·omega
 ·refine run_convert_bytes_back w _ _ 5 ⟨g,0,none⟩ cap l Tryz.underlying143 Tryz.underlying5 Tryz.underlying9 fun j hj => ?_
  exact h.cells (g:=g) rfl j _ (by simp [hj,vb])
def Bytes (w:World) (g:Nat) (l:List UInt8):Prop:=∀ j (h:j < l.length),w.cell? ⟨g,j,none⟩ = some (vb l[j])
theorem Bytes.set {w:World} {g:Nat} {l:List UInt8} (h:Bytes w g l) {i:Nat} (hi:i < l.length) (x:UInt8):Bytes (w.setCell ⟨g,i,none⟩ (vb x)) g (l.set i x):=by
 intro j hj
 rw [List.length_set] at hj
 by_cases e:i = j
 ·subst e
  rw [World.cell?_setCell_same w _ _ (h i hi)]
  simp
 ·rw [World.cell?_setCell_other w _ _ _ (fun c => e (by injection c)),h j hj,List.getElem_set_ne e]
theorem Bytes.conv {w:World} {g:Nat} {l:List UInt8} (h:Bytes w g l) (n cap:Nat) (hn:n = l.length) :
  (convert 143 9 (.slice (some ⟨g,0,none⟩) n cap)).run Tryz.prog w = .ok (.string ⟨l.toArray⟩) w:=by
 subst hn
 refine run_convert_bytes_back w _ _ 5 ⟨g,0,none⟩ cap l Tryz.underlying143 Tryz.underlying5 Tryz.underlying9 fun j hj => ?_
 rw [Addr.add_lit,Nat.zero_add]
 exact h j hj
theorem conv_nil (w:World):(convert 143 9 (.slice none 0 0)).run Tryz.prog w = .ok (.string ⟨#[]⟩) w:=by kernel_rfl
theorem conv_own {w:World} {B:Nat} {v:Value} {l:List UInt8} (h:w.ownsRow B 5 1 v l.length (l.map vb)):(convert 143 9 v).run Tryz.prog w = .ok (.string ⟨l.toArray⟩) w:=by
 cases l with
 | cons x l => exact own_bytes h (by simp)
 | nil =>
  rcases h.2 with ⟨rfl,_⟩ | ⟨g,cap,cur,rfl,_,hh,hle,_⟩
  ·exact conv_nil w
  ·exact run_convert_bytes_back w _ _ 5 ⟨g,0,none⟩ cap [] Tryz.underlying143 Tryz.underlying5 Tryz.underlying9 fun j hj => absurd hj (by simp)
end Go.Proofs.YtfmnlpmgakgleaaGreatDoor
