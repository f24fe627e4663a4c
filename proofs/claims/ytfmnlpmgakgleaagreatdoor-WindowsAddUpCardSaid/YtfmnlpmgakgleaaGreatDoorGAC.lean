/- Texts of this claim, put together: Mem, App, Pick, Row. -/
import Derived.Test.YtfmnlpmgakgleaaGreatDoorGAB
import Derived.Lib.Hide
import Derived.Deep.OwnRows
import Derived.LoopTactic
import Derived.Maps.AppendAt
namespace Go.Proofs.YtfmnlpmgakgleaaGreatDoor
set_option linter.unusedVariables false
open Go.RowKit
theorem lt_of_heap {w:World} {o:Obj} {n:Nat} (h:w.heap[n]? = some o):n < w.heap.size:=(Array.getElem?_eq_some_iff.1 h).1
theorem heap_at {w:World} {o:Obj} {n:Nat} (h:n = w.heap.size):(w.alloc o).heap[n]? = some o:=by subst h;exact heap_alloc_new _ _
theorem heap_lt {w:World} {o:Obj} {n:Nat} (h:n < w.heap.size):(w.alloc o).heap[n]? = w.heap[n]?:=Below.heap_alloc w o n h
def Frz:Type:=Nat → Option Obj
def Frz.In (H:Frz) (w:World):Prop:=∀ b o,H b = some o → w.heap[b]? = some o
def Frz.Le (H H':Frz):Prop:=∀ b o,H b = some o → H' b = some o
def Frz.empty:Frz:=fun _ => none
def Frz.add (H:Frz) (n:Nat) (o:Obj):Frz:=fun b => if b = n then some o else H b
def Frz.all (H:Frz) (w:World) (n:Nat):Frz:=fun b => if b < n then H b else w.heap[b]?
theorem Frz.Le.refl (H:Frz):H.Le H:=fun _ _ h => h
theorem Frz.Le.trans {H H' H'':Frz} (h:H.Le H') (k:H'.Le H''):H.Le H'':=fun b o e => k b o (h b o e)
theorem Frz.In.empty (w:World):Frz.empty.In w:=fun _ _ h => by cases h
theorem Frz.In.lt {H:Frz} {w:World} (h:H.In w) {b:Nat} {o:Obj} (e:H b = some o):b < w.heap.size:=lt_of_heap (h b o e)
theorem Frz.In.none_ {H:Frz} {w:World} (h:H.In w) {b:Nat} (hb:w.heap.size ≤ b):H b = none:=by
 cases e:H b with
 | none => rfl
 | some o => exact absurd (h.lt e) (by omega)
theorem Frz.In.le {H H':Frz} {w:World} (h:H'.In w) (k:H.Le H'):H.In w:=fun b o e => h b o (k b o e)
theorem Frz.In.below {H:Frz} {w w':World} (h:H.In w) (hb:Below w.heap.size w w'):H.In w':=fun b o e => (hb.block b (h.lt e)).trans (h b o e)
theorem Frz.In.alloc {H:Frz} {w:World} (h:H.In w) (o:Obj):H.In (w.alloc o):=fun b o' e => (heap_lt (h.lt e)).trans (h b o' e)
theorem Frz.In.drewN {H:Frz} {w:World} (h:H.In w) (n:Nat):H.In (w.drewN n):=h
theorem Frz.In.grown {H:Frz} {w w':World} (h:H.In w) {g:Nat} (hg:w.grownBy w' (some g)) (hn:H g = none):H.In w':=fun b o e =>
 (hg.block b (h.lt e) (fun c => by injection c with c;subst c;rw [hn] at e;cases e)).trans (h b o e)
theorem Frz.In.grown' {H:Frz} {w w':World} {row:Option Nat} (h:H.In w) (hg:w.grownBy w' row) (hn:∀ g,row = some g → H g = none):H.In w':=fun b o e =>
 (hg.block b (h.lt e) (fun c => by rw [hn b c.symm] at e;cases e)).trans (h b o e)
theorem Frz.In.setCell {H:Frz} {w:World} (h:H.In w) {p:Addr} (hn:H p.block = none) (v:Value):H.In (w.setCell p v):=fun b o e =>
 (Below.heap_setCell w p v b (fun c => by rw [c,hn] at e;cases e)).trans (h b o e)
theorem Frz.le_add {H:Frz} {n:Nat} {o:Obj} (h:H n = none):H.Le (H.add n o):=fun b o' e => by
 unfold Frz.add
 split
 ·rename_i hb;subst hb;rw [h] at e;cases e
 ·exact e
theorem Frz.add_at (H:Frz) (n:Nat) (o:Obj):(H.add n o) n = some o:=by unfold Frz.add;simp
theorem Frz.add_other {H:Frz} {n m:Nat} {o:Obj} (h:m ≠ n):(H.add n o) m = H m:=by unfold Frz.add;rw [if_neg h]
theorem Frz.In.add {H:Frz} {w:World} (h:H.In w) {n:Nat} {o:Obj} (e:w.heap[n]? = some o):(H.add n o).In w:=fun b o' k => by
 unfold Frz.add at k
 split at k
 ·rename_i hb;subst hb;injection k with k;subst k;exact e
 ·exact h b o' k
theorem Frz.In.all {H:Frz} {w:World} (h:H.In w) (n:Nat):(H.all w n).In w:=fun b o k => by
 unfold Frz.all at k
 split at k
 ·exact h b o k
 ·exact k
def Frz.cell? (H:Frz) (a:Addr):Option Value :=
 match H a.block with
 | some (.cells c _ _) => if a.spot.isSome then none else c[a.off]?
 | _ => none
theorem Frz.In.cell {H:Frz} {w:World} (h:H.In w) {a:Addr} {v:Value} (e:H.cell? a = some v):w.cell? a = some v:=by
 unfold Frz.cell? at e
 split at e
 ·rename_i c t f hb
  simp only [World.cell?,h _ _ hb]
  exact e
 ·cases e
theorem Frz.Le.cell {H H':Frz} (h:H.Le H') {a:Addr} {v:Value} (e:H.cell? a = some v):H'.cell? a = some v:=by
 unfold Frz.cell? at e ⊢
 split at e
 ·rename_i c t f hb
  rw [h _ _ hb]
  exact e
 ·cases e
theorem Frz.cell_lt {H:Frz} {w:World} (h:H.In w) {a:Addr} {v:Value} (e:H.cell? a = some v):a.block < w.heap.size:=World.block_lt_of_cell? w a (h.cell e)
structure Lw (w:World) (bs K:Nat) (H:Frz) (W:World):Prop where
 st:St W bs K
 bel:Below w.heap.size w W
 le:w.heap.size ≤ bs
 fin:H.In W
 apart:H bs = none
theorem Lw.new {w:World} {a:Option Addr} {len cap:Nat} {zs:List Int} (h:IsRow .i64 w a len cap zs) :
  Lw w w.heap.size 0 Frz.empty (w.alloc (.cells #[.slice a len cap,.int .i64 0] 25)) :=
 ⟨St.of_row h,(Below.refl _ _).alloc (Nat.le_refl _) _,Nat.le_refl _,Frz.In.empty _,rfl⟩
section
variable {w W W':World} {bs K:Nat} {H:Frz}
theorem Lw.lt (h:Lw w bs K H W):bs < W.heap.size:=h.st.lt
theorem Lw.more (h:Lw w bs K H W) {K':Nat} (hK:K ≤ K'):Lw w bs K' H W:=⟨h.st.more hK,h.bel,h.le,h.fin,h.apart⟩
theorem Lw.call (h:Lw w bs K H W) (hb:Below W.heap.size W W'):Lw w bs K H W' :=
 ⟨h.st.below (hb.mono h.lt),h.bel.trans (hb.mono h.bel.size),h.le,h.fin.below hb,h.apart⟩
theorem Lw.alloc (h:Lw w bs K H W) (o:Obj):Lw w bs K H (W.alloc o):=h.call ((Below.refl _ _).alloc (Nat.le_refl _) _)
theorem Lw.drewN (h:Lw w bs K H W) (n:Nat):Lw w bs K H (W.drewN n):=h.call (below_drewN (Below.refl _ _) n)
theorem Lw.keep (h:Lw w bs K H W) {n:Nat} {o:Obj} (e:W.heap[n]? = some o) (hn:n ≠ bs):Lw w bs K (H.add n o) W :=
 ⟨h.st,h.bel,h.le,h.fin.add e,by rw [Frz.add_other (fun c => hn c.symm)];exact h.apart⟩
theorem Lw.setCell (h:Lw w bs K H W) {p:Addr} (hp:bs < p.block) (hH:H p.block = none) (v:Value):Lw w bs K H (W.setCell p v) :=
 ⟨h.st.below ((Below.refl _ _).setCell hp v),h.bel.setCell (Nat.le_of_lt (Nat.lt_of_le_of_lt h.le hp)) v,h.le,h.fin.setCell hH v,h.apart⟩
theorem Lw.put (h:Lw w bs K H W) (o:Obj):∃ H',H.Le H' ∧ H' W.heap.size = some o ∧ Lw w bs K H' (W.alloc o) :=
 ⟨H.add W.heap.size o,Frz.le_add (h.fin.none_ (Nat.le_refl _)),Frz.add_at _ _ _,(h.alloc o).keep (heap_at rfl) (by have:=h.lt;omega)⟩
theorem Lw.next (h:Lw w bs K H W) (n:Int) (hK:K ≤ 1099511627776) (hn:n ≤ 9223372036854775807) :
  Calls Tryz.prog 14 #[.pointer (some ⟨bs,0,none⟩),.int .i64 n] W fun e W' =>
   ∃ r:Int,e = .returned (.int .i64 r) ∧ 0 ≤ r ∧ (1 ≤ n → r < n) ∧ (n < 1 → r = 0) ∧ Lw w bs (K + 1) H W' ∧ W.grownBy W' (some bs) ∧ W'.heap.size = W.heap.size :=
 (next_any n h.st hK hn).mono fun e W' ⟨r,h1,h2,h3,h4,h5,h6,h7⟩ =>
  ⟨r,h1,h2,h3,h4,⟨h5,h.bel.grown h6 h.bel.size (fun k hk => by injection hk with hk;have:=h.le;omega),h.le,h.fin.grown h6 h.apart,h.apart⟩,h6,h7⟩
end
open Go.RowKit
theorem grown_alloc_left {w w':World} {o:Obj} {row:Option Nat} (h:(w.alloc o).grownBy w' row):w.grownBy w' row :=
 ⟨h.os,h.tape,h.output,Nat.le_trans (by simp) h.size,fun k hk hne => (h.block k (by simp;omega) hne).trans (Below.heap_alloc w o k hk)⟩
theorem own_below {w w':World} {B:Nat} {e:TypeId} {size n:Nat} {v:Value} {xs:List Value} (h:w.ownsRow B e size v n xs) (hB:B ≤ w.heap.size) (hg:w.grownBy w' v.ownBlock):Below B w w' :=
 (Below.refl B w).grown hg hB (fun k hk => (h.lt k hk).1)
theorem wpList_append1 {P:Program} {wr:World} {ops:Array Oper} {rest:List Oper} {o:Oper} {a:Act} {Q:Exit → Act → World → Prop} (hgd:o.guard = none) (s x:Operand) (t:TypeId)
  (ho:o.op = .call { callee:=.builtin .append,args:=#[s,x],argTypes:=#[t,t] })
  (B:Nat) (e:TypeId) (i:TypeInfo) (z:Value) (size bytes:Nat) (ht:P.underlying t = some (.slice e)) (hi:P.info? e = some i) (hz:i.zero = some z)
  (hsize:i.size = size) (hby:i.bytes = bytes) (hzs:z.cells.size = size) (hsz:0 < size)
  (v:Value) (n:Nat) (xs:List Value) (hs:a.eval s = v) (hown:wr.ownsRow B e size v n xs)
  (cs:Array Value) (T:TypeId) (hx:a.eval x = .slice (some ⟨wr.heap.size,0,none⟩) 1 1) (hcs:cs.size = size) (h1:∀ u ∈ cs.toList,u.oneCell' = true)
  (hn:n ≤ 4294967296) (hbytes:bytes ≤ 4096) (hB:B ≤ wr.heap.size)
  (h:∀ v' w',w'.ownsRow B e size v' (n + 1) (xs ++ cs.toList) → wr.grownBy w' v.ownBlock → Below B wr w' → wpList P ops Q rest (a.put o.dst v') w') :
  wpList P ops Q (o :: rest) a (wr.alloc (.cells cs T)):=by
 refine wpList_append_own _ hgd s x t ho B e i z size bytes ht hi hz hsize hby hzs hsz v n xs hs (hown.alloc _) ⟨wr.heap.size,0,none⟩ 1 1 cs.toList hx (by simpa using hcs) ?_ h1 (by simp only [maxLen];omega) ?_ (by simp;omega) ?_
 ·intro j u hu
  have hj:j < cs.size:=by have:=(List.getElem?_eq_some_iff.1 hu).1;simpa using this
  rw [Addr.add_lit,World.cell?_alloc_new]
  simp at hu ⊢
  exact hu
 ·have:(n + 1) * bytes ≤ 4294967297 * 4096:=Nat.mul_le_mul (by omega) hbytes
  omega
 ·intro v' w' ho' hg' _
  have hg:=grown_alloc_left hg'
  exact h v' w' ho' hg (own_below hown hB hg)
open Go.RowKit
def Ints (w:World) (A:Option Addr) (zs:List Int):Prop :=
 ∀ i (h:i < zs.length),∃ b off,A = some ⟨b,off,none⟩ ∧ w.cell? ⟨b,off + i,none⟩ = some (.int .i64 zs[i])
theorem Ints.of_row {w:World} {n:Nat} {T:TypeId} {f:Nat × Nat} {zs:List Int} {cs:Array Value} (h:w.heap[n]? = some (.cells cs T f)) (hc:cs = (zs.map (Value.int .i64)).toArray) :
  Ints w (some ⟨n,0,none⟩) zs:=by
 intro i hi
 refine ⟨n,0,rfl,?_⟩
 simp only [World.cell?,h,hc]
 simp [hi]
section
variable {w W:World} {bs K:Nat} {H:Frz}
theorem Lw.next' (h:Lw w bs K H W) (n:Int) (hK:K ≤ 1099511627776) (hn:n ≤ 9223372036854775807) (h1:1 ≤ n) :
  Calls Tryz.prog 14 #[.pointer (some ⟨bs,0,none⟩),.int .i64 n] W fun e W' =>
   ∃ r:Int,e = .returned (.int .i64 r) ∧ 0 ≤ r ∧ r < n ∧ Lw w bs (K + 1) H W' ∧ W.grownBy W' (some bs) ∧ W'.heap.size = W.heap.size :=
 (h.next n hK hn).mono fun e W' ⟨r,g1,g2,g3,g4,g5,g6,g7⟩ => ⟨r,g1,g2,g3 h1,g5,g6,g7⟩
set_option maxHeartbeats 400000 in
theorem Lw.pick (h:Lw w bs K H W) (A:Option Addr) (cap:Nat) (zs:List Int) (hA:Ints W A zs) (hne:∀ b off,A = some ⟨b,off,none⟩ → b ≠ bs)
  (h0:0 < zs.length) (hl:zs.length ≤ 1000000) (hK:K ≤ 1099511627776) :
  Calls Tryz.prog 10 #[.pointer (some ⟨bs,0,none⟩),.slice A zs.length cap] W fun e W' =>
   ∃ z:Int,e = .returned (.int .i64 z) ∧ z ∈ zs ∧ Lw w bs (K + 1) H W' ∧ W.grownBy W' (some bs) ∧ W'.heap.size = W.heap.size:=by
 have HA:=Lib.hid hA
 have HN:=Lib.hid hne
 clear hA hne
 go_enter Tryz.func10,Tryz.ntmps10
 go_wp2_with fail
 refine (h.next' _ hK (by omega) (by omega)).mono ?_
 rintro e W' ⟨r,rfl,r0,r1,L,g,hz⟩
 obtain ⟨i,rfl⟩:=Int.eq_ofNat_of_zero_le r0
 have hi:i < zs.length:=by omega
 obtain ⟨b,off,rfl,hc⟩:=HA.out i hi
 have hc':=(World.cell?_of_block (a:=⟨b,off + i,none⟩) (g.block b (World.block_lt_of_cell? W _ hc) (fun e => HN.out b off rfl (by injection e)))).trans hc
 have hm:=Lib.hid (List.getElem_mem hi)
 have HG:=Lib.hid g
 have HZ:=Lib.hid hz
 generalize zs[i] = z at hc' hm
 clear hc g hz
 go_wp2_with fail
 go_ret
 exact ⟨z,rfl,hm.out,L,HG.out,HZ.out⟩
set_option maxHeartbeats 400000 in
theorem Lw.flip (h:Lw w bs K H W) (n:Int) (hn:n ≤ 9223372036854775807) (hK:K ≤ 1099511627776) :
  Calls Tryz.prog 23 #[.pointer (some ⟨bs,0,none⟩),.int .i64 n] W fun e W' =>
   ∃ t:Bool,e = .returned (.bool t) ∧ Lw w bs (K + 1) H W' ∧ W.grownBy W' (some bs) ∧ W'.heap.size = W.heap.size:=by
 go_enter Tryz.func23,Tryz.ntmps23
 go_wp2_with fail
 refine (h.next n hK hn).mono ?_
 rintro e W' ⟨r,rfl,r0,r1,r2,L,g,hz⟩
 have HG:=Lib.hid g
 have HZ:=Lib.hid hz
 clear g hz
 go_wp2_with fail
 go_ret
 exact ⟨_,rfl,L,HG.out,HZ.out⟩
set_option maxHeartbeats 400000 in
theorem Lw.range (h:Lw w bs K H W) (l u:Int) (hl:-1000000000000000 ≤ l) (hu:u ≤ 1000000000000000) (hlu:l ≤ u) (hK:K ≤ 1099511627776) :
  Calls Tryz.prog 9 #[.pointer (some ⟨bs,0,none⟩),.int .i64 l,.int .i64 u] W fun e W' =>
   ∃ r:Int,e = .returned (.int .i64 r) ∧ l ≤ r ∧ r ≤ u ∧ Lw w bs (K + 1) H W' ∧ W.grownBy W' (some bs) ∧ W'.heap.size = W.heap.size:=by
 go_enter Tryz.func9,Tryz.ntmps9
 go_wp2_with fail
 refine (h.next' _ hK (by omega) (by omega)).mono ?_
 rintro e W' ⟨r,rfl,r0,r1,L,g,hz⟩
 have HG:=Lib.hid g
 have HZ:=Lib.hid hz
 clear g hz
 go_wp2_with fail
 go_ret
 exact ⟨_,rfl,by omega,by omega,L,HG.out,HZ.out⟩
end
open Go.RowKit
section
variable {D:Type}
def Rw (H:Frz) (A:Option Addr) (k:Nat) (f:D → Nat → Value) (ds:List D):Prop :=
 ∀ i (h:i < ds.length),∃ b off,A = some ⟨b,off,none⟩ ∧ ∀ j,j < k → H.cell? ⟨b,off + i * k + j,none⟩ = some (f ds[i] j)
theorem Rw.le {H H':Frz} {A:Option Addr} {k:Nat} {f:D → Nat → Value} {ds:List D} (h:Rw H A k f ds) (hl:H.Le H'):Rw H' A k f ds:=fun i hi => by
 obtain ⟨b,off,e,hc⟩:=h i hi
 exact ⟨b,off,e,fun j hj => hl.cell (hc j hj)⟩
theorem Rw.nil {H:Frz} {A:Option Addr} {k:Nat} {f:D → Nat → Value}:Rw H A k f ([]:List D):=fun i hi => absurd hi (by simp)
theorem Rw.at_ {H:Frz} {A:Option Addr} {k:Nat} {f:D → Nat → Value} {ds:List D} (h:Rw H A k f ds) {W:World} (hH:H.In W) {i:Nat} (hi:i < ds.length) (hk:0 < k) :
  ∃ b off,A = some ⟨b,off,none⟩ ∧ b < W.heap.size ∧ ∀ j,j < k → W.cell? ⟨b,off + i * k + j,none⟩ = some (f ds[i] j):=by
 obtain ⟨b,off,e,hc⟩:=h i hi
 exact ⟨b,off,e,Frz.cell_lt hH (hc 0 hk),fun j hj => hH.cell (hc j hj)⟩
def cellsOf (k:Nat) (f:D → Nat → Value) (ds:List D):List Value:=ds.flatMap fun d => (List.range k).map (f d)
theorem cellsOf_snoc (k:Nat) (f:D → Nat → Value) (ds:List D) (d:D):cellsOf k f (ds ++ [d]) = cellsOf k f ds ++ (List.range k).map (f d):=by simp [cellsOf]
theorem cellsOf_len (k:Nat) (f:D → Nat → Value) (ds:List D):(cellsOf k f ds).length = ds.length * k:=by
 induction ds with
 | nil => simp [cellsOf]
 | cons d ds ih =>
  simp only [cellsOf,List.flatMap_cons,List.length_append,List.length_map,List.length_range,List.length_cons] at ih ⊢
  rw [ih,Nat.succ_mul];omega
theorem cellsOf_get (k:Nat) (f:D → Nat → Value) (ds:List D) (i j:Nat) (hi:i < ds.length) (hj:j < k):(cellsOf k f ds)[i * k + j]? = some (f ds[i] j):=by
 induction ds generalizing i with
 | nil => simp at hi
 | cons d ds ih =>
  have e:cellsOf k f (d :: ds) = (List.range k).map (f d) ++ cellsOf k f ds:=by simp [cellsOf]
  rw [e]
  cases i with
  | zero => rw [List.getElem?_append_left (by simp;omega)];simp [hj]
  | succ i =>
   rw [List.getElem?_append_right (by simp;rw [Nat.succ_mul];omega)]
   have:(i + 1) * k + j - ((List.range k).map (f d)).length = i * k + j:=by simp;rw [Nat.succ_mul];omega
   rw [this]
   simpa using ih i (by simpa using hi)
def Orow (w:World) (B:Nat) (T k:Nat) (f:D → Nat → Value) (v:Value) (ds:List D):Prop:=w.ownsRow B T k v ds.length (cellsOf k f ds)
section
variable {w w':World} {B T k:Nat} {f:D → Nat → Value} {v v':Value} {ds:List D}
theorem Orow.own (h:Orow w B T k f v ds):w.ownsRow B T k v ds.length (cellsOf k f ds):=h
theorem Orow.nil (w:World) (B T k:Nat) (f:D → Nat → Value):Orow w B T k f (.slice none 0 0) []:=World.ownsRow_nil _ _ _ _
theorem Orow.lt (h:Orow w B T k f v ds) {g:Nat} (e:v.ownBlock = some g):B ≤ g ∧ g < w.heap.size:=World.ownsRow.lt h g e
theorem Orow.kept (h:Orow w B T k f v ds) {row:Option Nat} (hg:w.grownBy w' row) (hne:v.ownBlock = none ∨ v.ownBlock ≠ row):Orow w' B T k f v ds:=World.ownsRow.kept h hg hne
theorem Orow.far (h:Orow w B T k f v ds) {g:Nat} (hg:w.grownBy w' (some g)) (hne:g < B):Orow w' B T k f v ds:=h.kept hg (by
 cases e:v.ownBlock with
 | none => exact Or.inl rfl
 | some q => right;intro c;injection c with c;have:=(h.lt e).1;omega)
theorem Orow.below (h:Orow w B T k f v ds) (hb:Below w.heap.size w w'):Orow w' B T k f v ds :=
 h.kept (row:=none) ⟨hb.os,hb.tape,hb.output,hb.size,fun i hi _ => hb.block i hi⟩ (by cases e:v.ownBlock <;> simp)
theorem Orow.mono {B':Nat} (h:Orow w B T k f v ds) (hB:B' ≤ B):Orow w B' T k f v ds:=by
 refine ⟨h.1,?_⟩
 rcases h.2 with h | ⟨g,cap,cur,hv,hg,r⟩
 ·exact Or.inl h
 ·exact Or.inr ⟨g,cap,cur,hv,by omega,r⟩
theorem Orow.snoc {n:Nat} {d:D} {cs:List Value} (h:w'.ownsRow B T k v' (ds.length + 1) (cellsOf k f ds ++ cs)) (hc:(List.range k).map (f d) = cs):Orow w' B T k f v' (ds ++ [d]):=by
 unfold Orow
 rw [cellsOf_snoc,hc]
 simpa using h
theorem Orow.slice (h:Orow w B T k f v ds):∃ A cap,v = .slice A ds.length cap ∧ ds.length ≤ cap:=by
 rcases h.2 with ⟨rfl,hn⟩ | ⟨g,cap,cur,rfl,hB,hh,hle,hm,hs,ht⟩
 ·exact ⟨none,0,by rw [hn],by omega⟩
 ·exact ⟨_,cap,rfl,hle⟩
theorem Orow.freeze (h:Orow w B T k f v ds) (H:Frz) :
  ∃ (A:Option Addr) (cap:Nat) (H':Frz),v = .slice A ds.length cap ∧ ds.length ≤ cap ∧ (H.In w → H'.In w) ∧ ((∀ g,v.ownBlock = some g → H g = none) → H.Le H') ∧ Rw H' A k f ds ∧ (∀ b,b < B → H' b = H b) ∧ (∀ b,w.heap.size ≤ b → H' b = H b):=by
 rcases h.2 with ⟨rfl,hn⟩ | ⟨g,cap,cur,rfl,hB,hh,hle,hm,hs,ht⟩
 ·have:ds = []:=List.eq_nil_of_length_eq_zero hn
  subst this
  exact ⟨none,0,H,rfl,Nat.le_refl _,id,fun _ => Frz.Le.refl _,Rw.nil,fun _ _ => rfl,fun _ _ => rfl⟩
 ·refine ⟨some ⟨g,0,none⟩,cap,H.add g (.cells cur T (0,0)),rfl,hle,fun hI => hI.add hh,fun hN => Frz.le_add (hN g rfl),?_,fun b hb => Frz.add_other (by omega),fun b hb => Frz.add_other (by have:=lt_of_heap hh;omega)⟩
  intro i hi
  refine ⟨g,0,rfl,fun j hj => ?_⟩
  have hx:=cellsOf_get k f ds i j hi hj
  rw [← ht] at hx
  have hlt:i * k + j < ds.length * k:=by
   have:(i + 1) * k ≤ ds.length * k:=Nat.mul_le_mul_right _ hi
   rw [Nat.succ_mul] at this;omega
  rw [List.getElem?_take_of_lt hlt] at hx
  unfold Frz.cell?
  rw [show (⟨g,0 + i * k + j,none⟩:Addr).block = g from rfl,Frz.add_at]
  simpa using hx
end
theorem wpList_app_at {P:Program} {wr:World} {ops:Array Oper} {rest:List Oper} {o:Oper} {a:Act} {Q:Exit → Act → World → Prop} (hgd:o.guard = none) (s x:Operand) (t:TypeId)
  (ho:o.op = .call { callee:=.builtin .append,args:=#[s,x],argTypes:=#[t,t] })
  (B:Nat) (e:TypeId) (i:TypeInfo) (z:Value) (k bytes:Nat) (ht:P.underlying t = some (.slice e)) (hi:P.info? e = some i) (hz:i.zero = some z)
  (hsize:i.size = k) (hby:i.bytes = bytes) (hzs:z.cells.size = k) (hsz:0 < k)
  (f:D → Nat → Value) (v:Value) (ds:List D) (hs:a.eval s = v) (hown:Orow wr B e k f v ds)
  (d:D) (cs:Array Value) (T:TypeId) (hx:a.eval x = .slice (some ⟨wr.heap.size,0,none⟩) 1 1) (hcs:(List.range k).map (f d) = cs.toList) (h1:∀ u ∈ cs.toList,u.oneCell' = true)
  (hn:ds.length ≤ 4294967296) (hbytes:bytes ≤ 4096) (hB:B ≤ wr.heap.size)
  (h:∀ v' w',Orow w' B e k f v' (ds ++ [d]) → wr.grownBy w' v.ownBlock → Below B wr w' → (v'.ownBlock = v.ownBlock ∨ ∃ g,v'.ownBlock = some g ∧ wr.heap.size < g) → wpList P ops Q rest (a.put o.dst v') w') :
  wpList P ops Q (o :: rest) a (wr.alloc (.cells cs T)):=by
 have hck:cs.size = k:=by have:=congrArg List.length hcs;simpa using this.symm
 refine wpList_append_own_at _ hgd s x t ho B e i z k bytes ht hi hz hsize hby hzs hsz v ds.length _ hs (hown.own.alloc _) ⟨wr.heap.size,0,none⟩ 1 1 cs.toList hx (by simpa using hck) ?_ h1 (by simp only [maxLen];omega) ?_ (by simp;omega) ?_
 ·intro j u hu
  have hj:j < cs.size:=by have:=(List.getElem?_eq_some_iff.1 hu).1;simpa using this
  rw [Addr.add_lit,World.cell?_alloc_new]
  simp at hu ⊢
  exact hu
 ·have:(ds.length + 1) * bytes ≤ 4294967297 * 4096:=Nat.mul_le_mul (by omega) hbytes
  omega
 ·intro v' w' ho' hg' _ hat
  have hg:=grown_alloc_left hg'
  refine h v' w' (Orow.snoc (n:=0) ho' hcs) hg (own_below hown.own hB hg) ?_
  rcases hat with hat | hat
  ·exact Or.inl hat
  ·exact Or.inr ⟨_,hat,by simp⟩
end
end Go.Proofs.YtfmnlpmgakgleaaGreatDoor
