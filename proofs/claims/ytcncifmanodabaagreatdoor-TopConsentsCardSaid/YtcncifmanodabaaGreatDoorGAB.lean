/- Texts of this claim, put together: Stream, Mem, App, Pick, Row, PutR, Cellw. -/
import Derived.Test.YtcncifmanodabaaGreatDoorProg
import Derived.WalkKit
import Derived.WalkLawsBesides
import Derived.WalkSpells
import Derived.RegionTactic
import Derived.Deep.QuietTactic
import Derived.BigQuiet
import Derived.Lib.Hide
import Derived.Deep.OwnRows
import Derived.LoopTactic
import Derived.Maps.AppendAt
namespace Go.Proofs.YtcncifmanodabaaGreatDoor
set_option linter.unusedVariables false
open Go.RowKit
theorem ret_int {k:IntKind} {a b:Int} (h:a = b):Ending.returned (.int k a) = .returned (.int k b):=by rw [h]
theorem emod_neg {x n:Int} (hn:1 ≤ n) (h:x.tmod n < 0):x.tmod n + n = x % n:=by
 have h1:=Int.tmod_eq_emod (a:=x) (b:=n)
 have h2:=Int.emod_nonneg x (show n ≠ 0 by omega)
 have h3:=Int.emod_lt_of_pos x (show 0 < n by omega)
 split at h1 <;> omega
theorem emod_pos {x n:Int} (hn:1 ≤ n) (h:¬ x.tmod n < 0):x.tmod n = x % n:=by
 have h1:=Int.tmod_eq_emod (a:=x) (b:=n)
 have h2:=Int.emod_nonneg x (show n ≠ 0 by omega)
 have h3:=Int.emod_lt_of_pos x (show 0 < n by omega)
 split at h1 <;> omega
def bel (x n:Int):Int:=if n < 1 then 0 else x % n
theorem bel_lo (x n:Int):0 ≤ bel x n:=by
 unfold bel;split
 ·omega
 ·exact Int.emod_nonneg _ (by omega)
theorem bel_hi {x n:Int} (h:1 ≤ n):bel x n < n:=by
 unfold bel;rw [if_neg (by omega)];exact Int.emod_lt_of_pos _ (by omega)
theorem bel_zero {x n:Int} (h:n < 1):bel x n = 0:=by unfold bel;rw [if_pos h]
theorem bel_neg {x n:Int} (hn:1 ≤ n) (h:x.tmod n < 0):x.tmod n + n = bel x n:=by unfold bel;rw [if_neg (by omega),emod_neg hn h]
theorem bel_pos {x n:Int} (hn:1 ≤ n) (h:0 ≤ x.tmod n):x.tmod n = bel x n:=by unfold bel;rw [if_neg (by omega),emod_pos hn (by omega)]
set_option maxHeartbeats 400000 in
theorem below_any (x n:Int) (w:World) (hn':n ≤ 9223372036854775807) :
  Calls Tryz.prog 40 #[.int .i64 x,.int .i64 n] w fun e w' => e = .returned (.int .i64 (bel x n)) ∧ w = w':=by
 by_cases hn:n < 1
 ·go_enter Tryz.func40,Tryz.ntmps40
  go_wp2
  go_ret
  exact ⟨ret_int (bel_zero hn).symm,rfl⟩
 ·have hn1:1 ≤ n:=by omega
  by_cases h0:x.tmod n < 0
  ·have hb1:-n < x.tmod n:=Int.lt_tmod_of_pos x (by omega)
   go_enter Tryz.func40,Tryz.ntmps40
   go_wp2
   go_ret
   exact ⟨ret_int (bel_neg hn1 (by omega)),rfl⟩
  ·go_enter Tryz.func40,Tryz.ntmps40
   go_wp2
   go_ret
   exact ⟨ret_int (bel_pos hn1 (by omega)),rfl⟩
def St (w:World) (bs:Nat) (K:Nat):Prop :=
 ∃ (A:Option Addr) (len cap:Nat) (k:Nat),k ≤ K ∧ len ≤ 9223372036854775807 ∧ w.heap[bs]? = some (.cells #[.slice A len cap,.int .i64 k] 25 (0,0)) ∧
  ∀ i,i < len → ∃ b off z,A = some ⟨b,off,none⟩ ∧ b < bs ∧ w.cell? ⟨b,off + i,none⟩ = some (.int .i64 z) ∧ -9223372036854775808 ≤ z ∧ z ≤ 9223372036854775807
theorem St.lt {w:World} {bs K:Nat} (h:St w bs K):bs < w.heap.size:=by
 obtain ⟨A,len,cap,k,h1,h2,h3,h4⟩:=h
 rcases Nat.lt_or_ge bs w.heap.size with hlt | hge
 ·exact hlt
 ·rw [Array.getElem?_eq_none hge] at h3;cases h3
theorem St.below {w w':World} {bs K:Nat} (h:St w bs K) (hb:Below (bs + 1) w w'):St w' bs K:=by
 obtain ⟨A,len,cap,k,h1,h2,h3,h4⟩:=h
 refine ⟨A,len,cap,k,h1,h2,(hb.block bs (by omega)).trans h3,fun i hi => ?_⟩
 obtain ⟨b,off,z,e1,e2,e3,e4⟩:=h4 i hi
 exact ⟨b,off,z,e1,e2,(hb.cell (p:=⟨b,off + i,none⟩) (by show b < bs + 1;omega)).trans e3,e4⟩
theorem St.more {w:World} {bs K K':Nat} (h:St w bs K) (hK:K ≤ K'):St w bs K':=by
 obtain ⟨A,len,cap,k,h1,h⟩:=h
 exact ⟨A,len,cap,k,by omega,h⟩
theorem St.new {w:World} {A:Option Addr} {len cap:Nat} (hl:len ≤ 9223372036854775807)
  (h:∀ i,i < len → ∃ b off z,A = some ⟨b,off,none⟩ ∧ b < w.heap.size ∧ w.cell? ⟨b,off + i,none⟩ = some (.int .i64 z) ∧ -9223372036854775808 ≤ z ∧ z ≤ 9223372036854775807) :
  St (w.alloc (.cells #[.slice A len cap,.int .i64 0] 25)) w.heap.size 0:=by
 refine ⟨A,len,cap,0,Nat.le_refl _,hl,heap_alloc_new w _,fun i hi => ?_⟩
 obtain ⟨b,off,z,e1,e2,e3,e4⟩:=h i hi
 exact ⟨b,off,z,e1,e2,(World.cell?_alloc_lt w _ _ e2).trans e3,e4⟩
def IsRow (k:IntKind) (w:World) (a:Option Addr) (len cap:Nat) (zs:List Int):Prop :=
 (a = none ∧ len = 0 ∧ cap = 0 ∧ zs = []) ∨
 ∃ x,a = some x ∧ len ≤ cap ∧ cap ≤ maxLen ∧ zs.length = cap ∧ (∀ i,i < zs.length → w.cell? (x.add i) = some (.int k (zs.getD i 0))) ∧ ∀ n ∈ zs,(Lit.int k n).wf = true
theorem row_facts {w:World} {a:Option Addr} {len cap:Nat} {zs:List Int} (h:IsRow .i64 w a len cap zs) :
  len ≤ 9223372036854775807 ∧ ∀ i,i < len → ∃ b off z,a = some ⟨b,off,none⟩ ∧ b < w.heap.size ∧ w.cell? ⟨b,off + i,none⟩ = some (.int .i64 z) ∧ -9223372036854775808 ≤ z ∧ z ≤ 9223372036854775807:=by
 rcases h with ⟨_,rfl,_,_⟩ | ⟨x,rfl,hl,hm,hz,hcell,hwz⟩
 ·exact ⟨by omega,fun i hi => by omega⟩
 ·unfold maxLen at hm
  refine ⟨by omega,fun i hi => ?_⟩
  obtain ⟨b,off,spot⟩:=x
  have hc0:=hcell 0 (by omega)
  have hspot:spot = none:=by simpa [Addr.add] using World.cell?_spot hc0
  subst hspot
  have hc:=hcell i (by omega)
  rw [Addr.add_lit] at hc
  have hw:=hwz (zs.getD i 0) (by rw [List.getD_eq_getElem?_getD,List.getElem?_eq_getElem (by omega)];exact List.getElem_mem _)
  have hb:-9223372036854775808 ≤ zs.getD i 0 ∧ zs.getD i 0 ≤ 9223372036854775807:=by
   simp [Lit.wf,IntKind.min,IntKind.max,IntKind.signed,IntKind.bits] at hw ⊢
   omega
  exact ⟨b,off,_,rfl,World.block_lt_of_cell? w _ hc,hc,by omega,by omega⟩
theorem St.of_row {w:World} {a:Option Addr} {len cap:Nat} {zs:List Int} (h:IsRow .i64 w a len cap zs) :
  St (w.alloc (.cells #[.slice a len cap,.int .i64 0] 25)) w.heap.size 0:=St.new (row_facts h).1 (row_facts h).2
set_option maxHeartbeats 400000 in
theorem next_some (bs:Nat) (n:Int) (b off len cap k:Nat) (z:Int) (w:World)
  (hblk:w.heap[bs]? = some (.cells #[.slice (some ⟨b,off,none⟩) len cap,.int .i64 k] 25 (0,0)))
  (hl0:0 < len) (_hl:len ≤ 9223372036854775807) (_hk:k ≤ 1099511627776) (hb:b < bs)
  (_hz:w.cell? ⟨b,off + k % len,none⟩ = some (.int .i64 z))
  (_hn:n ≤ 9223372036854775807) :
  Calls Tryz.prog 18 #[.pointer (some ⟨bs,0,none⟩),.int .i64 n] w fun e w' =>
   ∃ x m,e = .returned (.int .i64 (bel x n)) ∧ w' = (w.setCell ⟨bs,1,none⟩ (.int .i64 (k + 1))).drewN m:=by
 have c0:w.cell? ⟨bs,0,none⟩ = some (.slice (some ⟨b,off,none⟩) len cap):=by simp [World.cell?,hblk]
 have c1:w.cell? ⟨bs,1,none⟩ = some (.int .i64 k):=by simp [World.cell?,hblk]
 have f1:w.frozen? ⟨bs,1,none⟩ = false:=by simp [World.frozen?,hblk]
 have hne:((len:Int) == 0) = false:=by simp;omega
 have hne2:¬ bs = b:=by omega
 have hm:0 ≤ (k:Int) % (len:Int) ∧ (k:Int) % (len:Int) < len:=⟨Int.emod_nonneg _ (by omega),Int.emod_lt_of_pos _ (by omega)⟩
 clear hblk
 go_enter Tryz.func18,Tryz.ntmps18
 go_wp2_with fail
 go_quiet (fail)
 go_wp2_with fail
 go_quiet (fail)
 go_wp2_with (go_at_call 40;refine (below_any _ _ _ (by omega)).mono ?_;rintro e w' ⟨rfl,rfl⟩)
 go_ret
 exact ⟨_,_,rfl,rfl⟩
set_option maxHeartbeats 400000 in
theorem next_none (bs:Nat) (n:Int) (A:Option Addr) (cap k:Nat) (w:World)
  (hblk:w.heap[bs]? = some (.cells #[.slice A 0 cap,.int .i64 k] 25 (0,0)))
  (_hk:k ≤ 1099511627776) (_hn:n ≤ 9223372036854775807) :
  Calls Tryz.prog 18 #[.pointer (some ⟨bs,0,none⟩),.int .i64 n] w fun e w' =>
   ∃ x m,e = .returned (.int .i64 (bel x n)) ∧ w' = (w.setCell ⟨bs,1,none⟩ (.int .i64 (k + 1))).drewN m:=by
 have c0:w.cell? ⟨bs,0,none⟩ = some (.slice A 0 cap):=by simp [World.cell?,hblk]
 have c1:w.cell? ⟨bs,1,none⟩ = some (.int .i64 k):=by simp [World.cell?,hblk]
 have f1:w.frozen? ⟨bs,1,none⟩ = false:=by simp [World.frozen?,hblk]
 clear hblk
 go_enter Tryz.func18,Tryz.ntmps18
 go_wp2_with (go_at_call 40;refine (below_any _ _ _ (by omega)).mono ?_;rintro e w' ⟨rfl,rfl⟩)
 go_ret
 exact ⟨_,0,rfl,rfl⟩
def NextPost (bs K:Nat) (n:Int) (w:World) (e:Ending) (w':World):Prop :=
 ∃ r:Int,e = .returned (.int .i64 r) ∧ 0 ≤ r ∧ (1 ≤ n → r < n) ∧ (n < 1 → r = 0) ∧ St w' bs (K + 1) ∧ w.grownBy w' (some bs) ∧ w'.heap.size = w.heap.size
theorem next_post {bs K:Nat} {n x:Int} {w:World} {A:Option Addr} {len cap k m:Nat} (hk:k ≤ K) (hl:len ≤ 9223372036854775807)
  (h3:w.heap[bs]? = some (.cells #[.slice A len cap,.int .i64 k] 25 (0,0)))
  (h4:∀ i,i < len → ∃ b off z,A = some ⟨b,off,none⟩ ∧ b < bs ∧ w.cell? ⟨b,off + i,none⟩ = some (.int .i64 z) ∧ -9223372036854775808 ≤ z ∧ z ≤ 9223372036854775807) :
  NextPost bs K n w (.returned (.int .i64 (bel x n))) ((w.setCell ⟨bs,1,none⟩ (.int .i64 (k + 1))).drewN m):=by
 refine ⟨_,rfl,bel_lo _ _,fun h => bel_hi h,fun h => bel_zero h,⟨A,len,cap,k + 1,by omega,hl,?_,fun i hi => ?_⟩,⟨rfl,rfl,rfl,?_,fun b _ hne => ?_⟩,?_⟩
 ·show (w.setCell ⟨bs,1,none⟩ (.int .i64 (k + 1))).heap[bs]? = _
  simp [World.setCell,Array.getElem?_modify,h3]
 ·obtain ⟨b,off,z,e1,e2,e3,e4⟩:=h4 i hi
  exact ⟨b,off,z,e1,e2,(World.cell?_setCell_other w _ _ _ (fun e => by injection e;omega)).trans e3,e4⟩
 ·show _ ≤ (w.setCell ⟨bs,1,none⟩ (.int .i64 (k + 1))).heap.size
  simp
 ·exact Below.heap_setCell w _ _ b (fun e => hne (by rw [e]))
 ·show (w.setCell ⟨bs,1,none⟩ (.int .i64 (k + 1))).heap.size = _
  simp
theorem next_any {bs K:Nat} (n:Int) {w:World} (hS:St w bs K) (hK:K ≤ 1099511627776) (hn:n ≤ 9223372036854775807) :
  Calls Tryz.prog 18 #[.pointer (some ⟨bs,0,none⟩),.int .i64 n] w (NextPost bs K n w):=by
 obtain ⟨A,len,cap,k,h1,h2,h3,h4⟩:=hS
 rcases Nat.eq_zero_or_pos len with hl | hl
 ·subst hl
  exact (next_none bs n A cap k w h3 (by omega) hn).mono fun e w' ⟨x,m,he,hw⟩ => by
   subst he;subst hw;exact next_post h1 h2 h3 h4
 ·obtain ⟨b,off,z,rfl,hb,hc,hz⟩:=h4 (k % len) (Nat.mod_lt _ hl)
  exact (next_some bs n b off len cap k z w h3 hl h2 (by omega) hb hc hn).mono fun e w' ⟨x,m,he,hw⟩ => by
   subst he;subst hw;exact next_post h1 h2 h3 h4
open Go.RowKit
theorem lt_of_heap {w:World} {o:Obj} {n:Nat} (h:w.heap[n]? = some o):n < w.heap.size:=(Array.getElem?_eq_some_iff.1 h).1
theorem heap_at {w:World} {o:Obj} {n:Nat} (h:n = w.heap.size):(w.alloc o).heap[n]? = some o:=by subst h;exact heap_alloc_new _ _
theorem heap_lt {w:World} {o:Obj} {n:Nat} (h:n < w.heap.size):(w.alloc o).heap[n]? = w.heap[n]?:=Below.heap_alloc w o n h
def Frz:Type:=Nat → Option Obj
def Frz.In (H:Frz) (w:World):Prop:=∀ b o,H b = some o → w.heap[b]? = some o
def Frz.Le (H H':Frz):Prop:=∀ b o,H b = some o → H' b = some o
def Frz.empty:Frz:=fun _ => none
def Frz.add (H:Frz) (n:Nat) (o:Obj):Frz:=fun b => if b = n then some o else H b
def Frz.all (H:Frz) (w:World) (n:Nat):Frz:=fun b => if b < n then H b else w.heap[b]?
theorem Frz.Le.refl (H:Frz):H.Le H:=fun _ _ h => h
theorem Frz.Le.trans {H H' H'':Frz} (h:H.Le H') (k:H'.Le H''):H.Le H'':=fun b o e => k b o (h b o e)
theorem Frz.In.empty (w:World):Frz.empty.In w:=fun _ _ h => by cases h
theorem Frz.In.lt {H:Frz} {w:World} (h:H.In w) {b:Nat} {o:Obj} (e:H b = some o):b < w.heap.size:=lt_of_heap (h b o e)
theorem Frz.In.none_ {H:Frz} {w:World} (h:H.In w) {b:Nat} (hb:w.heap.size ≤ b):H b = none:=by
 cases e:H b with
 | none => rfl
 | some o => exact absurd (h.lt e) (by omega)
theorem Frz.In.le {H H':Frz} {w:World} (h:H'.In w) (k:H.Le H'):H.In w:=fun b o e => h b o (k b o e)
theorem Frz.In.below {H:Frz} {w w':World} (h:H.In w) (hb:Below w.heap.size w w'):H.In w':=fun b o e => (hb.block b (h.lt e)).trans (h b o e)
theorem Frz.In.alloc {H:Frz} {w:World} (h:H.In w) (o:Obj):H.In (w.alloc o):=fun b o' e => (heap_lt (h.lt e)).trans (h b o' e)
theorem Frz.In.drewN {H:Frz} {w:World} (h:H.In w) (n:Nat):H.In (w.drewN n):=h
theorem Frz.In.grown {H:Frz} {w w':World} (h:H.In w) {g:Nat} (hg:w.grownBy w' (some g)) (hn:H g = none):H.In w':=fun b o e =>
 (hg.block b (h.lt e) (fun c => by injection c with c;subst c;rw [hn] at e;cases e)).trans (h b o e)
theorem Frz.In.grown' {H:Frz} {w w':World} {row:Option Nat} (h:H.In w) (hg:w.grownBy w' row) (hn:∀ g,row = some g → H g = none):H.In w':=fun b o e =>
 (hg.block b (h.lt e) (fun c => by rw [hn b c.symm] at e;cases e)).trans (h b o e)
theorem Frz.In.setCell {H:Frz} {w:World} (h:H.In w) {p:Addr} (hn:H p.block = none) (v:Value):H.In (w.setCell p v):=fun b o e =>
 (Below.heap_setCell w p v b (fun c => by rw [c,hn] at e;cases e)).trans (h b o e)
theorem Frz.le_add {H:Frz} {n:Nat} {o:Obj} (h:H n = none):H.Le (H.add n o):=fun b o' e => by
 unfold Frz.add
 split
 ·rename_i hb;subst hb;rw [h] at e;cases e
 ·exact e
theorem Frz.add_at (H:Frz) (n:Nat) (o:Obj):(H.add n o) n = some o:=by unfold Frz.add;simp
theorem Frz.add_other {H:Frz} {n m:Nat} {o:Obj} (h:m ≠ n):(H.add n o) m = H m:=by unfold Frz.add;rw [if_neg h]
theorem Frz.In.add {H:Frz} {w:World} (h:H.In w) {n:Nat} {o:Obj} (e:w.heap[n]? = some o):(H.add n o).In w:=fun b o' k => by
 unfold Frz.add at k
 split at k
 ·rename_i hb;subst hb;injection k with k;subst k;exact e
 ·exact h b o' k
theorem Frz.In.all {H:Frz} {w:World} (h:H.In w) (n:Nat):(H.all w n).In w:=fun b o k => by
 unfold Frz.all at k
 split at k
 ·exact h b o k
 ·exact k
theorem Frz.le_all {H:Frz} {w w':World} {n:Nat} (h:H.In w') (hn:w'.heap.size ≤ n):H.Le (H.all w n):=fun b o e => by
 unfold Frz.all
 rw [if_pos (Nat.lt_of_lt_of_le (h.lt e) hn)]
 exact e
theorem Frz.all_lt {H:Frz} {w:World} {n b:Nat} (h:b < n):(H.all w n) b = H b:=by unfold Frz.all;rw [if_pos h]
def Frz.cell? (H:Frz) (a:Addr):Option Value :=
 match H a.block with
 | some (.cells c _ _) => if a.spot.isSome then none else c[a.off]?
 | _ => none
theorem Frz.In.cell {H:Frz} {w:World} (h:H.In w) {a:Addr} {v:Value} (e:H.cell? a = some v):w.cell? a = some v:=by
 unfold Frz.cell? at e
 split at e
 ·rename_i c t f hb
  simp only [World.cell?,h _ _ hb]
  exact e
 ·cases e
theorem Frz.Le.cell {H H':Frz} (h:H.Le H') {a:Addr} {v:Value} (e:H.cell? a = some v):H'.cell? a = some v:=by
 unfold Frz.cell? at e ⊢
 split at e
 ·rename_i c t f hb
  rw [h _ _ hb]
  exact e
 ·cases e
theorem Frz.cell_lt {H:Frz} {w:World} (h:H.In w) {a:Addr} {v:Value} (e:H.cell? a = some v):a.block < w.heap.size:=World.block_lt_of_cell? w a (h.cell e)
structure Lw (w:World) (bs K:Nat) (H:Frz) (W:World):Prop where
 st:St W bs K
 bel:Below w.heap.size w W
 le:w.heap.size ≤ bs
 fin:H.In W
 apart:H bs = none
theorem Lw.new {w:World} {a:Option Addr} {len cap:Nat} {zs:List Int} (h:IsRow .i64 w a len cap zs) :
  Lw w w.heap.size 0 Frz.empty (w.alloc (.cells #[.slice a len cap,.int .i64 0] 25)) :=
 ⟨St.of_row h,(Below.refl _ _).alloc (Nat.le_refl _) _,Nat.le_refl _,Frz.In.empty _,rfl⟩
section
variable {w W W':World} {bs K:Nat} {H:Frz}
theorem Lw.lt (h:Lw w bs K H W):bs < W.heap.size:=h.st.lt
theorem Lw.more (h:Lw w bs K H W) {K':Nat} (hK:K ≤ K'):Lw w bs K' H W:=⟨h.st.more hK,h.bel,h.le,h.fin,h.apart⟩
theorem Lw.call (h:Lw w bs K H W) (hb:Below W.heap.size W W'):Lw w bs K H W' :=
 ⟨h.st.below (hb.mono h.lt),h.bel.trans (hb.mono h.bel.size),h.le,h.fin.below hb,h.apart⟩
theorem Lw.alloc (h:Lw w bs K H W) (o:Obj):Lw w bs K H (W.alloc o):=h.call ((Below.refl _ _).alloc (Nat.le_refl _) _)
theorem Lw.drewN (h:Lw w bs K H W) (n:Nat):Lw w bs K H (W.drewN n):=h.call (below_drewN (Below.refl _ _) n)
theorem Lw.keep (h:Lw w bs K H W) {n:Nat} {o:Obj} (e:W.heap[n]? = some o) (hn:n ≠ bs):Lw w bs K (H.add n o) W :=
 ⟨h.st,h.bel,h.le,h.fin.add e,by rw [Frz.add_other (fun c => hn c.symm)];exact h.apart⟩
theorem Lw.setCell (h:Lw w bs K H W) {p:Addr} (hp:bs < p.block) (hH:H p.block = none) (v:Value):Lw w bs K H (W.setCell p v) :=
 ⟨h.st.below ((Below.refl _ _).setCell hp v),h.bel.setCell (Nat.le_of_lt (Nat.lt_of_le_of_lt h.le hp)) v,h.le,h.fin.setCell hH v,h.apart⟩
theorem Lw.put (h:Lw w bs K H W) (o:Obj):∃ H',H.Le H' ∧ H' W.heap.size = some o ∧ Lw w bs K H' (W.alloc o) :=
 ⟨H.add W.heap.size o,Frz.le_add (h.fin.none_ (Nat.le_refl _)),Frz.add_at _ _ _,(h.alloc o).keep (heap_at rfl) (by have:=h.lt;omega)⟩
theorem Lw.next (h:Lw w bs K H W) (n:Int) (hK:K ≤ 1099511627776) (hn:n ≤ 9223372036854775807) :
  Calls Tryz.prog 18 #[.pointer (some ⟨bs,0,none⟩),.int .i64 n] W fun e W' =>
   ∃ r:Int,e = .returned (.int .i64 r) ∧ 0 ≤ r ∧ (1 ≤ n → r < n) ∧ (n < 1 → r = 0) ∧ Lw w bs (K + 1) H W' ∧ W.grownBy W' (some bs) ∧ W'.heap.size = W.heap.size :=
 (next_any n h.st hK hn).mono fun e W' ⟨r,h1,h2,h3,h4,h5,h6,h7⟩ =>
  ⟨r,h1,h2,h3,h4,⟨h5,h.bel.grown h6 h.bel.size (fun k hk => by injection hk with hk;have:=h.le;omega),h.le,h.fin.grown h6 h.apart,h.apart⟩,h6,h7⟩
end
open Go.RowKit
theorem grown_alloc_left {w w':World} {o:Obj} {row:Option Nat} (h:(w.alloc o).grownBy w' row):w.grownBy w' row :=
 ⟨h.os,h.tape,h.output,Nat.le_trans (by simp) h.size,fun k hk hne => (h.block k (by simp;omega) hne).trans (Below.heap_alloc w o k hk)⟩
theorem own_below {w w':World} {B:Nat} {e:TypeId} {size n:Nat} {v:Value} {xs:List Value} (h:w.ownsRow B e size v n xs) (hB:B ≤ w.heap.size) (hg:w.grownBy w' v.ownBlock):Below B w w' :=
 (Below.refl B w).grown hg hB (fun k hk => (h.lt k hk).1)
open Go.RowKit
def Ints (w:World) (A:Option Addr) (zs:List Int):Prop :=
 ∀ i (h:i < zs.length),∃ b off,A = some ⟨b,off,none⟩ ∧ w.cell? ⟨b,off + i,none⟩ = some (.int .i64 zs[i])
theorem Ints.of_row {w:World} {n:Nat} {T:TypeId} {f:Nat × Nat} {zs:List Int} {cs:Array Value} (h:w.heap[n]? = some (.cells cs T f)) (hc:cs = (zs.map (Value.int .i64)).toArray) :
  Ints w (some ⟨n,0,none⟩) zs:=by
 intro i hi
 refine ⟨n,0,rfl,?_⟩
 simp only [World.cell?,h,hc]
 simp [hi]
section
variable {w W:World} {bs K:Nat} {H:Frz}
theorem Lw.next' (h:Lw w bs K H W) (n:Int) (hK:K ≤ 1099511627776) (hn:n ≤ 9223372036854775807) (h1:1 ≤ n) :
  Calls Tryz.prog 18 #[.pointer (some ⟨bs,0,none⟩),.int .i64 n] W fun e W' =>
   ∃ r:Int,e = .returned (.int .i64 r) ∧ 0 ≤ r ∧ r < n ∧ Lw w bs (K + 1) H W' ∧ W.grownBy W' (some bs) ∧ W'.heap.size = W.heap.size :=
 (h.next n hK hn).mono fun e W' ⟨r,g1,g2,g3,g4,g5,g6,g7⟩ => ⟨r,g1,g2,g3 h1,g5,g6,g7⟩
set_option maxHeartbeats 400000 in
theorem Lw.pick (h:Lw w bs K H W) (A:Option Addr) (cap:Nat) (zs:List Int) (hA:Ints W A zs) (hne:∀ b off,A = some ⟨b,off,none⟩ → b ≠ bs)
  (h0:0 < zs.length) (hl:zs.length ≤ 1000000) (hK:K ≤ 1099511627776) :
  Calls Tryz.prog 17 #[.pointer (some ⟨bs,0,none⟩),.slice A zs.length cap] W fun e W' =>
   ∃ z:Int,e = .returned (.int .i64 z) ∧ z ∈ zs ∧ Lw w bs (K + 1) H W' ∧ W.grownBy W' (some bs) ∧ W'.heap.size = W.heap.size:=by
 have HA:=Lib.hid hA
 have HN:=Lib.hid hne
 clear hA hne
 go_enter Tryz.func17,Tryz.ntmps17
 go_wp2_with fail
 refine (h.next' _ hK (by omega) (by omega)).mono ?_
 rintro e W' ⟨r,rfl,r0,r1,L,g,hz⟩
 obtain ⟨i,rfl⟩:=Int.eq_ofNat_of_zero_le r0
 have hi:i < zs.length:=by omega
 obtain ⟨b,off,rfl,hc⟩:=HA.out i hi
 have hc':=(World.cell?_of_block (a:=⟨b,off + i,none⟩) (g.block b (World.block_lt_of_cell? W _ hc) (fun e => HN.out b off rfl (by injection e)))).trans hc
 have hm:=Lib.hid (List.getElem_mem hi)
 have HG:=Lib.hid g
 have HZ:=Lib.hid hz
 generalize zs[i] = z at hc' hm
 clear hc g hz
 go_wp2_with fail
 go_ret
 exact ⟨z,rfl,hm.out,L,HG.out,HZ.out⟩
set_option maxHeartbeats 400000 in
theorem Lw.flip (h:Lw w bs K H W) (n:Int) (hn:n ≤ 9223372036854775807) (hK:K ≤ 1099511627776) :
  Calls Tryz.prog 16 #[.pointer (some ⟨bs,0,none⟩),.int .i64 n] W fun e W' =>
   ∃ t:Bool,e = .returned (.bool t) ∧ Lw w bs (K + 1) H W' ∧ W.grownBy W' (some bs) ∧ W'.heap.size = W.heap.size:=by
 go_enter Tryz.func16,Tryz.ntmps16
 go_wp2_with fail
 refine (h.next n hK hn).mono ?_
 rintro e W' ⟨r,rfl,r0,r1,r2,L,g,hz⟩
 have HG:=Lib.hid g
 have HZ:=Lib.hid hz
 clear g hz
 go_wp2_with fail
 go_ret
 exact ⟨_,rfl,L,HG.out,HZ.out⟩
set_option maxHeartbeats 400000 in
theorem Lw.range (h:Lw w bs K H W) (l u:Int) (hl:-1000000000000000 ≤ l) (hu:u ≤ 1000000000000000) (hlu:l ≤ u) (hK:K ≤ 1099511627776) :
  Calls Tryz.prog 7 #[.pointer (some ⟨bs,0,none⟩),.int .i64 l,.int .i64 u] W fun e W' =>
   ∃ r:Int,e = .returned (.int .i64 r) ∧ l ≤ r ∧ r ≤ u ∧ Lw w bs (K + 1) H W' ∧ W.grownBy W' (some bs) ∧ W'.heap.size = W.heap.size:=by
 go_enter Tryz.func7,Tryz.ntmps7
 go_wp2_with fail
 refine (h.next' _ hK (by omega) (by omega)).mono ?_
 rintro e W' ⟨r,rfl,r0,r1,L,g,hz⟩
 have HG:=Lib.hid g
 have HZ:=Lib.hid hz
 clear g hz
 go_wp2_with fail
 go_ret
 exact ⟨_,rfl,by omega,by omega,L,HG.out,HZ.out⟩
end
open Go.RowKit
section
variable {D:Type}
def Rw (H:Frz) (A:Option Addr) (k:Nat) (f:D → Nat → Value) (ds:List D):Prop :=
 ∀ i (h:i < ds.length),∃ b off,A = some ⟨b,off,none⟩ ∧ ∀ j,j < k → H.cell? ⟨b,off + i * k + j,none⟩ = some (f ds[i] j)
theorem Rw.le {H H':Frz} {A:Option Addr} {k:Nat} {f:D → Nat → Value} {ds:List D} (h:Rw H A k f ds) (hl:H.Le H'):Rw H' A k f ds:=fun i hi => by
 obtain ⟨b,off,e,hc⟩:=h i hi
 exact ⟨b,off,e,fun j hj => hl.cell (hc j hj)⟩
theorem Rw.nil {H:Frz} {A:Option Addr} {k:Nat} {f:D → Nat → Value}:Rw H A k f ([]:List D):=fun i hi => absurd hi (by simp)
theorem Rw.at_ {H:Frz} {A:Option Addr} {k:Nat} {f:D → Nat → Value} {ds:List D} (h:Rw H A k f ds) {W:World} (hH:H.In W) {i:Nat} (hi:i < ds.length) (hk:0 < k) :
  ∃ b off,A = some ⟨b,off,none⟩ ∧ b < W.heap.size ∧ ∀ j,j < k → W.cell? ⟨b,off + i * k + j,none⟩ = some (f ds[i] j):=by
 obtain ⟨b,off,e,hc⟩:=h i hi
 exact ⟨b,off,e,Frz.cell_lt hH (hc 0 hk),fun j hj => hH.cell (hc j hj)⟩
def cellsOf (k:Nat) (f:D → Nat → Value) (ds:List D):List Value:=ds.flatMap fun d => (List.range k).map (f d)
theorem cellsOf_snoc (k:Nat) (f:D → Nat → Value) (ds:List D) (d:D):cellsOf k f (ds ++ [d]) = cellsOf k f ds ++ (List.range k).map (f d):=by simp [cellsOf]
theorem cellsOf_len (k:Nat) (f:D → Nat → Value) (ds:List D):(cellsOf k f ds).length = ds.length * k:=by
 induction ds with
 | nil => simp [cellsOf]
 | cons d ds ih =>
  simp only [cellsOf,List.flatMap_cons,List.length_append,List.length_map,List.length_range,List.length_cons] at ih ⊢
  rw [ih,Nat.succ_mul];omega
theorem cellsOf_get (k:Nat) (f:D → Nat → Value) (ds:List D) (i j:Nat) (hi:i < ds.length) (hj:j < k):(cellsOf k f ds)[i * k + j]? = some (f ds[i] j):=by
 induction ds generalizing i with
 | nil => simp at hi
 | cons d ds ih =>
  have e:cellsOf k f (d :: ds) = (List.range k).map (f d) ++ cellsOf k f ds:=by simp [cellsOf]
  rw [e]
  cases i with
  | zero => rw [List.getElem?_append_left (by simp;omega)];simp [hj]
  | succ i =>
   rw [List.getElem?_append_right (by simp;rw [Nat.succ_mul];omega)]
   have:(i + 1) * k + j - ((List.range k).map (f d)).length = i * k + j:=by simp;rw [Nat.succ_mul];omega
   rw [this]
   simpa using ih i (by simpa using hi)
def Orow (w:World) (B:Nat) (T k:Nat) (f:D → Nat → Value) (v:Value) (ds:List D):Prop:=w.ownsRow B T k v ds.length (cellsOf k f ds)
section
variable {w w':World} {B T k:Nat} {f:D → Nat → Value} {v v':Value} {ds:List D}
theorem Orow.own (h:Orow w B T k f v ds):w.ownsRow B T k v ds.length (cellsOf k f ds):=h
theorem Orow.nil (w:World) (B T k:Nat) (f:D → Nat → Value):Orow w B T k f (.slice none 0 0) []:=World.ownsRow_nil _ _ _ _
theorem Orow.lt (h:Orow w B T k f v ds) {g:Nat} (e:v.ownBlock = some g):B ≤ g ∧ g < w.heap.size:=World.ownsRow.lt h g e
theorem Orow.kept (h:Orow w B T k f v ds) {row:Option Nat} (hg:w.grownBy w' row) (hne:v.ownBlock = none ∨ v.ownBlock ≠ row):Orow w' B T k f v ds:=World.ownsRow.kept h hg hne
theorem Orow.far (h:Orow w B T k f v ds) {g:Nat} (hg:w.grownBy w' (some g)) (hne:g < B):Orow w' B T k f v ds:=h.kept hg (by
 cases e:v.ownBlock with
 | none => exact Or.inl rfl
 | some q => right;intro c;injection c with c;have:=(h.lt e).1;omega)
theorem Orow.below (h:Orow w B T k f v ds) (hb:Below w.heap.size w w'):Orow w' B T k f v ds :=
 h.kept (row:=none) ⟨hb.os,hb.tape,hb.output,hb.size,fun i hi _ => hb.block i hi⟩ (by cases e:v.ownBlock <;> simp)
theorem Orow.mono {B':Nat} (h:Orow w B T k f v ds) (hB:B' ≤ B):Orow w B' T k f v ds:=by
 refine ⟨h.1,?_⟩
 rcases h.2 with h | ⟨g,cap,cur,hv,hg,r⟩
 ·exact Or.inl h
 ·exact Or.inr ⟨g,cap,cur,hv,by omega,r⟩
theorem Orow.snoc {n:Nat} {d:D} {cs:List Value} (h:w'.ownsRow B T k v' (ds.length + 1) (cellsOf k f ds ++ cs)) (hc:(List.range k).map (f d) = cs):Orow w' B T k f v' (ds ++ [d]):=by
 unfold Orow
 rw [cellsOf_snoc,hc]
 simpa using h
theorem Orow.slice (h:Orow w B T k f v ds):∃ A cap,v = .slice A ds.length cap ∧ ds.length ≤ cap:=by
 rcases h.2 with ⟨rfl,hn⟩ | ⟨g,cap,cur,rfl,hB,hh,hle,hm,hs,ht⟩
 ·exact ⟨none,0,by rw [hn],by omega⟩
 ·exact ⟨_,cap,rfl,hle⟩
theorem Orow.freeze (h:Orow w B T k f v ds) (H:Frz) :
  ∃ (A:Option Addr) (cap:Nat) (H':Frz),v = .slice A ds.length cap ∧ ds.length ≤ cap ∧ (H.In w → H'.In w) ∧ ((∀ g,v.ownBlock = some g → H g = none) → H.Le H') ∧ Rw H' A k f ds ∧ (∀ b,b < B → H' b = H b) ∧ (∀ b,w.heap.size ≤ b → H' b = H b):=by
 rcases h.2 with ⟨rfl,hn⟩ | ⟨g,cap,cur,rfl,hB,hh,hle,hm,hs,ht⟩
 ·have:ds = []:=List.eq_nil_of_length_eq_zero hn
  subst this
  exact ⟨none,0,H,rfl,Nat.le_refl _,id,fun _ => Frz.Le.refl _,Rw.nil,fun _ _ => rfl,fun _ _ => rfl⟩
 ·refine ⟨some ⟨g,0,none⟩,cap,H.add g (.cells cur T (0,0)),rfl,hle,fun hI => hI.add hh,fun hN => Frz.le_add (hN g rfl),?_,fun b hb => Frz.add_other (by omega),fun b hb => Frz.add_other (by have:=lt_of_heap hh;omega)⟩
  intro i hi
  refine ⟨g,0,rfl,fun j hj => ?_⟩
  have hx:=cellsOf_get k f ds i j hi hj
  rw [← ht] at hx
  have hlt:i * k + j < ds.length * k:=by
   have:(i + 1) * k ≤ ds.length * k:=Nat.mul_le_mul_right _ hi
   rw [Nat.succ_mul] at this;omega
  rw [List.getElem?_take_of_lt hlt] at hx
  unfold Frz.cell?
  rw [show (⟨g,0 + i * k + j,none⟩:Addr).block = g from rfl,Frz.add_at]
  simpa using hx
end
theorem wpList_app_at {P:Program} {wr:World} {ops:Array Oper} {rest:List Oper} {o:Oper} {a:Act} {Q:Exit → Act → World → Prop} (hgd:o.guard = none) (s x:Operand) (t:TypeId)
  (ho:o.op = .call { callee:=.builtin .append,args:=#[s,x],argTypes:=#[t,t] })
  (B:Nat) (e:TypeId) (i:TypeInfo) (z:Value) (k bytes:Nat) (ht:P.underlying t = some (.slice e)) (hi:P.info? e = some i) (hz:i.zero = some z)
  (hsize:i.size = k) (hby:i.bytes = bytes) (hzs:z.cells.size = k) (hsz:0 < k)
  (f:D → Nat → Value) (v:Value) (ds:List D) (hs:a.eval s = v) (hown:Orow wr B e k f v ds)
  (d:D) (cs:Array Value) (T:TypeId) (hx:a.eval x = .slice (some ⟨wr.heap.size,0,none⟩) 1 1) (hcs:(List.range k).map (f d) = cs.toList) (h1:∀ u ∈ cs.toList,u.oneCell' = true)
  (hn:ds.length ≤ 4294967296) (hbytes:bytes ≤ 4096) (hB:B ≤ wr.heap.size)
  (h:∀ v' w',Orow w' B e k f v' (ds ++ [d]) → wr.grownBy w' v.ownBlock → Below B wr w' → (v'.ownBlock = v.ownBlock ∨ ∃ g,v'.ownBlock = some g ∧ wr.heap.size < g) → wpList P ops Q rest (a.put o.dst v') w') :
  wpList P ops Q (o :: rest) a (wr.alloc (.cells cs T)):=by
 have hck:cs.size = k:=by have:=congrArg List.length hcs;simpa using this.symm
 refine wpList_append_own_at _ hgd s x t ho B e i z k bytes ht hi hz hsize hby hzs hsz v ds.length _ hs (hown.own.alloc _) ⟨wr.heap.size,0,none⟩ 1 1 cs.toList hx (by simpa using hck) ?_ h1 (by simp only [maxLen];omega) ?_ (by simp;omega) ?_
 ·intro j u hu
  have hj:j < cs.size:=by have:=(List.getElem?_eq_some_iff.1 hu).1;simpa using this
  rw [Addr.add_lit,World.cell?_alloc_new]
  simp at hu ⊢
  exact hu
 ·have:(ds.length + 1) * bytes ≤ 4294967297 * 4096:=Nat.mul_le_mul (by omega) hbytes
  omega
 ·intro v' w' ho' hg' _ hat
  have hg:=grown_alloc_left hg'
  refine h v' w' (Orow.snoc (n:=0) ho' hcs) hg (own_below hown.own hB hg) ?_
  rcases hat with hat | hat
  ·exact Or.inl hat
  ·exact Or.inr ⟨_,hat,by simp⟩
end
open Go.RowKit
theorem Frz.In.put {H:Frz} {w:World} (h:H.In w) (o:Obj):∃ H',H.Le H' ∧ H' w.heap.size = some o ∧ H'.In (w.alloc o) :=
 ⟨H.add w.heap.size o,Frz.le_add (h.none_ (Nat.le_refl _)),Frz.add_at _ _ _,(h.alloc o).add (heap_at rfl)⟩
theorem Rw.take {D:Type} {H:Frz} {A:Option Addr} {k:Nat} {f:D → Nat → Value} {ds:List D} (h:Rw H A k f ds) (n:Nat):Rw H A k f (ds.take n):=fun i hi => by
 have hi':i < ds.length:=by simp at hi;omega
 obtain ⟨b,off,e,hc⟩:=h i hi'
 refine ⟨b,off,e,fun j hj => ?_⟩
 rw [hc j hj,List.getElem_take]
theorem Rw_blk {D:Type} {H:Frz} {g T k:Nat} {f:D → Nat → Value} {ds:List D} (h:H g = some (.cells (cellsOf k f ds).toArray T (0,0))):Rw H (some ⟨g,0,none⟩) k f ds:=by
 intro i hi
 refine ⟨g,0,rfl,fun j hj => ?_⟩
 unfold Frz.cell?
 rw [show (⟨g,0 + i * k + j,none⟩:Addr).block = g from rfl,h]
 have:=cellsOf_get k f ds i j hi hj
 simpa using this
open Go.RowKit
theorem newc {w:World} {T:TypeId} {xs:Array Value} (m:Nat) {v:Value} (h:xs[m]? = some v):(w.alloc (.cells xs T)).cell? ⟨w.heap.size,m,none⟩ = some v:=by
 rw [World.cell?_alloc_new];exact h
theorem oldc {w:World} {o:Obj} {a:Addr} {v:Value} (h:w.cell? a = some v):(w.alloc o).cell? a = some v:=(World.cell?_alloc_lt w _ _ (World.block_lt_of_cell? w _ h)).trans h
theorem new1 {w:World} (o:Obj):Below w.heap.size w (w.alloc o):=(Below.refl _ _).alloc (Nat.le_refl _) _
theorem new2 {w:World} (o1 o2:Obj):Below w.heap.size w ((w.alloc o1).alloc o2):=((Below.refl _ _).alloc (Nat.le_refl _) _).alloc (by simp) _
theorem sizeA (w:World) (o:Obj):(w.alloc o).heap.size = w.heap.size + 1:=by simp
theorem keep2 {w w1:World} {T:TypeId} {xs:Array Value} (hb:Below (w.alloc (.cells xs T)).heap.size (w.alloc (.cells xs T)) w1):w1.heap[w.heap.size]? = some (.cells xs T (0,0)):=(hb.block _ (by simp)).trans (heap_alloc_new _ _)
theorem cell_h {w:World} {g:Nat} {T:TypeId} {xs:Array Value} {f:Nat × Nat} (h:w.heap[g]? = some (.cells xs T f)) (m:Nat) {v:Value} (hv:xs[m]? = some v):w.cell? ⟨g,m,none⟩ = some v:=by
 simp only [World.cell?,h];exact hv
theorem froz_h {w:World} {g:Nat} {T:TypeId} {xs:Array Value} (h:w.heap[g]? = some (.cells xs T (0,0))) (m:Nat):w.frozen? ⟨g,m,none⟩ = false:=by
 simp [World.frozen?,h]
theorem set2 {w:World} {g:Nat} {T:TypeId} {x0 x1:Value} (h:w.heap[g]? = some (.cells #[x0,x1] T (0,0))) (a0 a1:Value):((w.setCell ⟨g,0,none⟩ a0).setCell ⟨g,1,none⟩ a1).heap[g]? = some (.cells #[a0,a1] T (0,0)):=by
 simp [World.setCell,Array.getElem?_modify,h]
theorem set3 {w:World} {g:Nat} {T:TypeId} {x0 x1 x2:Value} (h:w.heap[g]? = some (.cells #[x0,x1,x2] T (0,0))) (a0 a1 a2:Value):(((w.setCell ⟨g,0,none⟩ a0).setCell ⟨g,1,none⟩ a1).setCell ⟨g,2,none⟩ a2).heap[g]? = some (.cells #[a0,a1,a2] T (0,0)):=by
 simp [World.setCell,Array.getElem?_modify,h]
theorem set5 {w:World} {g:Nat} {T:TypeId} {x0 x1 x2 x3 x4:Value} (h:w.heap[g]? = some (.cells #[x0,x1,x2,x3,x4] T (0,0))) (a0 a1 a2 a3 a4:Value):(((((w.setCell ⟨g,0,none⟩ a0).setCell ⟨g,1,none⟩ a1).setCell ⟨g,2,none⟩ a2).setCell ⟨g,3,none⟩ a3).setCell ⟨g,4,none⟩ a4).heap[g]? = some (.cells #[a0,a1,a2,a3,a4] T (0,0)):=by
 simp [World.setCell,Array.getElem?_modify,h]
theorem set8 {w:World} {g:Nat} {T:TypeId} {x0 x1 x2 x3 x4 x5 x6 x7:Value} (h:w.heap[g]? = some (.cells #[x0,x1,x2,x3,x4,x5,x6,x7] T (0,0))) (a0 a1 a2 a3 a4 a5 a6 a7:Value):((((((((w.setCell ⟨g,0,none⟩ a0).setCell ⟨g,1,none⟩ a1).setCell ⟨g,2,none⟩ a2).setCell ⟨g,3,none⟩ a3).setCell ⟨g,4,none⟩ a4).setCell ⟨g,5,none⟩ a5).setCell ⟨g,6,none⟩ a6).setCell ⟨g,7,none⟩ a7).heap[g]? = some (.cells #[a0,a1,a2,a3,a4,a5,a6,a7] T (0,0)):=by
 simp [World.setCell,Array.getElem?_modify,h]
theorem grown_setC {a w:World} {g:Nat} (h:a.grownBy w (some g)) (o:Nat) (v:Value):a.grownBy (w.setCell ⟨g,o,none⟩ v) (some g) :=
 ⟨h.os,h.tape,h.output,by simpa [World.setCell] using h.size,fun k hk hne => (Below.heap_setCell w _ v k (fun e => hne (by rw [e]))).trans (h.block k hk hne)⟩
theorem grown_set2 (w1:World) (g:Nat) (a0 a1:Value):w1.grownBy ((w1.setCell ⟨g,0,none⟩ a0).setCell ⟨g,1,none⟩ a1) (some g):=(grown_setC (grown_setC (World.grownBy.refl _ _) 0 a0) 1 a1)
end Go.Proofs.YtcncifmanodabaaGreatDoor
