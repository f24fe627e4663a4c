/- Texts of this claim, put together: UfP, DistP, Stream. -/
import Derived.Lib.Hide
import Derived.Test.YtfmnlpmgakgleaaGreatDoorProg
import Derived.WalkKit
import Derived.WalkLawsBesides
import Derived.WalkSpells
import Derived.RegionTactic
import Derived.Deep.QuietTactic
import Derived.BigQuiet
namespace Go.Proofs.YtfmnlpmgakgleaaGreatDoor
set_option linter.unusedVariables false
def repN (r:List Nat) (i:Nat):Nat:=if h:r.getD i i < i then repN r (r.getD i i) else i
termination_by i
def Dn (r:List Nat):Prop:=∀ i,r.getD i i ≤ i
theorem repN_root {r:List Nat} (hd:Dn r) {i:Nat} (h:r.getD i i = i):repN r i = i:=by
 rw [repN,dif_neg (by omega)]
inductive Tied (E:Nat → Nat → Prop):Nat → Nat → Prop
 | refl (i:Nat):Tied E i i
 | edge {i j:Nat} (h:E i j):Tied E i j
 | symm {i j:Nat} (h:Tied E i j):Tied E j i
 | trans {i j k:Nat} (h:Tied E i j) (h':Tied E j k):Tied E i k
theorem Tied.mono {E E':Nat → Nat → Prop} (h:∀ i j,E i j → E' i j) {i j:Nat} (t:Tied E i j):Tied E' i j:=by
 induction t with
 | refl i => exact .refl i
 | edge e => exact .edge (h _ _ e)
 | symm _ ih => exact .symm ih
 | trans _ _ ih ih' => exact .trans ih ih'
structure Uf (E:Nat → Nat → Prop) (r:List Nat):Prop where
 dn:Dn r
 iff:∀ i j,repN r i = repN r j ↔ Tied E i j
theorem Tied.more {E E':Nat → Nat → Prop} (h:∀ i j,E i j → Tied E' i j) {i j:Nat} (t:Tied E i j):Tied E' i j:=by
 induction t with
 | refl i => exact .refl i
 | edge e => exact h _ _ e
 | symm _ ih => exact .symm ih
 | trans _ _ ih ih' => exact .trans ih ih'
theorem Uf.same {E E':Nat → Nat → Prop} {r:List Nat} (h:Uf E r) (h1:∀ i j,E i j → Tied E' i j) (h2:∀ i j,E' i j → Tied E i j):Uf E' r :=
 ⟨h.dn,fun i j => (h.iff i j).trans ⟨fun t => t.more h1,fun t => t.more h2⟩⟩
theorem getD_range (n i:Nat):(List.range n).getD i i = i:=by
 rw [List.getD_eq_getElem?_getD]
 by_cases h:i < n
 ·rw [List.getElem?_range h];rfl
 ·rw [List.getElem?_eq_none (by simpa using h)];rfl
theorem Uf.start (n:Nat):Uf (fun _ _ => False) (List.range n):=by
 have hd:Dn (List.range n):=fun i => by rw [getD_range];exact Nat.le_refl _
 have hr:∀ i,repN (List.range n) i = i:=fun i => repN_root hd (getD_range n i)
 refine ⟨hd,fun i j => ⟨fun e => ?_,fun t => ?_⟩⟩
 ·rw [hr,hr] at e
  rw [e]
  exact .refl j
 ·induction t with
  | refl i => rfl
  | edge e => exact e.elim
  | symm _ ih => exact ih.symm
  | trans _ _ ih ih' => exact ih.trans ih'
set_option linter.unusedVariables false
open Go.RowKit
theorem ret_int {k:IntKind} {a b:Int} (h:a = b):Ending.returned (.int k a) = .returned (.int k b):=by rw [h]
theorem emod_neg {x n:Int} (hn:1 ≤ n) (h:x.tmod n < 0):x.tmod n + n = x % n:=by
 have h1:=Int.tmod_eq_emod (a:=x) (b:=n)
 have h2:=Int.emod_nonneg x (show n ≠ 0 by omega)
 have h3:=Int.emod_lt_of_pos x (show 0 < n by omega)
 split at h1 <;> omega
theorem emod_pos {x n:Int} (hn:1 ≤ n) (h:¬ x.tmod n < 0):x.tmod n = x % n:=by
 have h1:=Int.tmod_eq_emod (a:=x) (b:=n)
 have h2:=Int.emod_nonneg x (show n ≠ 0 by omega)
 have h3:=Int.emod_lt_of_pos x (show 0 < n by omega)
 split at h1 <;> omega
def bel (x n:Int):Int:=if n < 1 then 0 else x % n
theorem bel_lo (x n:Int):0 ≤ bel x n:=by
 unfold bel;split
 ·omega
 ·exact Int.emod_nonneg _ (by omega)
theorem bel_hi {x n:Int} (h:1 ≤ n):bel x n < n:=by
 unfold bel;rw [if_neg (by omega)];exact Int.emod_lt_of_pos _ (by omega)
theorem bel_zero {x n:Int} (h:n < 1):bel x n = 0:=by unfold bel;rw [if_pos h]
theorem bel_neg {x n:Int} (hn:1 ≤ n) (h:x.tmod n < 0):x.tmod n + n = bel x n:=by unfold bel;rw [if_neg (by omega),emod_neg hn h]
theorem bel_pos {x n:Int} (hn:1 ≤ n) (h:0 ≤ x.tmod n):x.tmod n = bel x n:=by unfold bel;rw [if_neg (by omega),emod_pos hn (by omega)]
set_option maxHeartbeats 400000 in
theorem below_any (x n:Int) (w:World) (hn':n ≤ 9223372036854775807) :
  Calls Tryz.prog 47 #[.int .i64 x,.int .i64 n] w fun e w' => e = .returned (.int .i64 (bel x n)) ∧ w = w':=by
 by_cases hn:n < 1
 ·go_enter Tryz.func47,Tryz.ntmps47
  go_wp2
  go_ret
  exact ⟨ret_int (bel_zero hn).symm,rfl⟩
 ·have hn1:1 ≤ n:=by omega
  by_cases h0:x.tmod n < 0
  ·have hb1:-n < x.tmod n:=Int.lt_tmod_of_pos x (by omega)
   go_enter Tryz.func47,Tryz.ntmps47
   go_wp2
   go_ret
   exact ⟨ret_int (bel_neg hn1 (by omega)),rfl⟩
  ·go_enter Tryz.func47,Tryz.ntmps47
   go_wp2
   go_ret
   exact ⟨ret_int (bel_pos hn1 (by omega)),rfl⟩
def St (w:World) (bs:Nat) (K:Nat):Prop :=
 ∃ (A:Option Addr) (len cap:Nat) (k:Nat),k ≤ K ∧ len ≤ 9223372036854775807 ∧ w.heap[bs]? = some (.cells #[.slice A len cap,.int .i64 k] 25 (0,0)) ∧
  ∀ i,i < len → ∃ b off z,A = some ⟨b,off,none⟩ ∧ b < bs ∧ w.cell? ⟨b,off + i,none⟩ = some (.int .i64 z) ∧ -9223372036854775808 ≤ z ∧ z ≤ 9223372036854775807
theorem St.lt {w:World} {bs K:Nat} (h:St w bs K):bs < w.heap.size:=by
 obtain ⟨A,len,cap,k,h1,h2,h3,h4⟩:=h
 rcases Nat.lt_or_ge bs w.heap.size with hlt | hge
 ·exact hlt
 ·rw [Array.getElem?_eq_none hge] at h3;cases h3
theorem St.below {w w':World} {bs K:Nat} (h:St w bs K) (hb:Below (bs + 1) w w'):St w' bs K:=by
 obtain ⟨A,len,cap,k,h1,h2,h3,h4⟩:=h
 refine ⟨A,len,cap,k,h1,h2,(hb.block bs (by omega)).trans h3,fun i hi => ?_⟩
 obtain ⟨b,off,z,e1,e2,e3,e4⟩:=h4 i hi
 exact ⟨b,off,z,e1,e2,(hb.cell (p:=⟨b,off + i,none⟩) (by show b < bs + 1;omega)).trans e3,e4⟩
theorem St.more {w:World} {bs K K':Nat} (h:St w bs K) (hK:K ≤ K'):St w bs K':=by
 obtain ⟨A,len,cap,k,h1,h⟩:=h
 exact ⟨A,len,cap,k,by omega,h⟩
theorem St.new {w:World} {A:Option Addr} {len cap:Nat} (hl:len ≤ 9223372036854775807)
  (h:∀ i,i < len → ∃ b off z,A = some ⟨b,off,none⟩ ∧ b < w.heap.size ∧ w.cell? ⟨b,off + i,none⟩ = some (.int .i64 z) ∧ -9223372036854775808 ≤ z ∧ z ≤ 9223372036854775807) :
  St (w.alloc (.cells #[.slice A len cap,.int .i64 0] 25)) w.heap.size 0:=by
 refine ⟨A,len,cap,0,Nat.le_refl _,hl,heap_alloc_new w _,fun i hi => ?_⟩
 obtain ⟨b,off,z,e1,e2,e3,e4⟩:=h i hi
 exact ⟨b,off,z,e1,e2,(World.cell?_alloc_lt w _ _ e2).trans e3,e4⟩
def IsRow (k:IntKind) (w:World) (a:Option Addr) (len cap:Nat) (zs:List Int):Prop :=
 (a = none ∧ len = 0 ∧ cap = 0 ∧ zs = []) ∨
 ∃ x,a = some x ∧ len ≤ cap ∧ cap ≤ maxLen ∧ zs.length = cap ∧ (∀ i,i < zs.length → w.cell? (x.add i) = some (.int k (zs.getD i 0))) ∧ ∀ n ∈ zs,(Lit.int k n).wf = true
theorem row_facts {w:World} {a:Option Addr} {len cap:Nat} {zs:List Int} (h:IsRow .i64 w a len cap zs) :
  len ≤ 9223372036854775807 ∧ ∀ i,i < len → ∃ b off z,a = some ⟨b,off,none⟩ ∧ b < w.heap.size ∧ w.cell? ⟨b,off + i,none⟩ = some (.int .i64 z) ∧ -9223372036854775808 ≤ z ∧ z ≤ 9223372036854775807:=by
 rcases h with ⟨_,rfl,_,_⟩ | ⟨x,rfl,hl,hm,hz,hcell,hwz⟩
 ·exact ⟨by omega,fun i hi => by omega⟩
 ·unfold maxLen at hm
  refine ⟨by omega,fun i hi => ?_⟩
  obtain ⟨b,off,spot⟩:=x
  have hc0:=hcell 0 (by omega)
  have hspot:spot = none:=by simpa [Addr.add] using World.cell?_spot hc0
  subst hspot
  have hc:=hcell i (by omega)
  rw [Addr.add_lit] at hc
  have hw:=hwz (zs.getD i 0) (by rw [List.getD_eq_getElem?_getD,List.getElem?_eq_getElem (by omega)];exact List.getElem_mem _)
  have hb:-9223372036854775808 ≤ zs.getD i 0 ∧ zs.getD i 0 ≤ 9223372036854775807:=by
   simp [Lit.wf,IntKind.min,IntKind.max,IntKind.signed,IntKind.bits] at hw ⊢
   omega
  exact ⟨b,off,_,rfl,World.block_lt_of_cell? w _ hc,hc,by omega,by omega⟩
theorem St.of_row {w:World} {a:Option Addr} {len cap:Nat} {zs:List Int} (h:IsRow .i64 w a len cap zs) :
  St (w.alloc (.cells #[.slice a len cap,.int .i64 0] 25)) w.heap.size 0:=St.new (row_facts h).1 (row_facts h).2
set_option maxHeartbeats 400000 in
theorem next_some (bs:Nat) (n:Int) (b off len cap k:Nat) (z:Int) (w:World)
  (hblk:w.heap[bs]? = some (.cells #[.slice (some ⟨b,off,none⟩) len cap,.int .i64 k] 25 (0,0)))
  (hl0:0 < len) (_hl:len ≤ 9223372036854775807) (_hk:k ≤ 1099511627776) (hb:b < bs)
  (_hz:w.cell? ⟨b,off + k % len,none⟩ = some (.int .i64 z))
  (_hn:n ≤ 9223372036854775807) :
  Calls Tryz.prog 14 #[.pointer (some ⟨bs,0,none⟩),.int .i64 n] w fun e w' =>
   ∃ x m,e = .returned (.int .i64 (bel x n)) ∧ w' = (w.setCell ⟨bs,1,none⟩ (.int .i64 (k + 1))).drewN m:=by
 have c0:w.cell? ⟨bs,0,none⟩ = some (.slice (some ⟨b,off,none⟩) len cap):=by simp [World.cell?,hblk]
 have c1:w.cell? ⟨bs,1,none⟩ = some (.int .i64 k):=by simp [World.cell?,hblk]
 have f1:w.frozen? ⟨bs,1,none⟩ = false:=by simp [World.frozen?,hblk]
 have hne:((len:Int) == 0) = false:=by simp;omega
 have hne2:¬ bs = b:=by omega
 have hm:0 ≤ (k:Int) % (len:Int) ∧ (k:Int) % (len:Int) < len:=⟨Int.emod_nonneg _ (by omega),Int.emod_lt_of_pos _ (by omega)⟩
 clear hblk
 go_enter Tryz.func14,Tryz.ntmps14
 go_wp2_with fail
 go_quiet (fail)
 go_wp2_with fail
 go_quiet (fail)
 go_wp2_with (go_at_call 47;refine (below_any _ _ _ (by omega)).mono ?_;rintro e w' ⟨rfl,rfl⟩)
 go_ret
 exact ⟨_,_,rfl,rfl⟩
set_option maxHeartbeats 400000 in
theorem next_none (bs:Nat) (n:Int) (A:Option Addr) (cap k:Nat) (w:World)
  (hblk:w.heap[bs]? = some (.cells #[.slice A 0 cap,.int .i64 k] 25 (0,0)))
  (_hk:k ≤ 1099511627776) (_hn:n ≤ 9223372036854775807) :
  Calls Tryz.prog 14 #[.pointer (some ⟨bs,0,none⟩),.int .i64 n] w fun e w' =>
   ∃ x m,e = .returned (.int .i64 (bel x n)) ∧ w' = (w.setCell ⟨bs,1,none⟩ (.int .i64 (k + 1))).drewN m:=by
 have c0:w.cell? ⟨bs,0,none⟩ = some (.slice A 0 cap):=by simp [World.cell?,hblk]
 have c1:w.cell? ⟨bs,1,none⟩ = some (.int .i64 k):=by simp [World.cell?,hblk]
 have f1:w.frozen? ⟨bs,1,none⟩ = false:=by simp [World.frozen?,hblk]
 clear hblk
 go_enter Tryz.func14,Tryz.ntmps14
 go_wp2_with (go_at_call 47;refine (below_any _ _ _ (by omega)).mono ?_;rintro e w' ⟨rfl,rfl⟩)
 go_ret
 exact ⟨_,0,rfl,rfl⟩
def NextPost (bs K:Nat) (n:Int) (w:World) (e:Ending) (w':World):Prop :=
 ∃ r:Int,e = .returned (.int .i64 r) ∧ 0 ≤ r ∧ (1 ≤ n → r < n) ∧ (n < 1 → r = 0) ∧ St w' bs (K + 1) ∧ w.grownBy w' (some bs) ∧ w'.heap.size = w.heap.size
theorem next_post {bs K:Nat} {n x:Int} {w:World} {A:Option Addr} {len cap k m:Nat} (hk:k ≤ K) (hl:len ≤ 9223372036854775807)
  (h3:w.heap[bs]? = some (.cells #[.slice A len cap,.int .i64 k] 25 (0,0)))
  (h4:∀ i,i < len → ∃ b off z,A = some ⟨b,off,none⟩ ∧ b < bs ∧ w.cell? ⟨b,off + i,none⟩ = some (.int .i64 z) ∧ -9223372036854775808 ≤ z ∧ z ≤ 9223372036854775807) :
  NextPost bs K n w (.returned (.int .i64 (bel x n))) ((w.setCell ⟨bs,1,none⟩ (.int .i64 (k + 1))).drewN m):=by
 refine ⟨_,rfl,bel_lo _ _,fun h => bel_hi h,fun h => bel_zero h,⟨A,len,cap,k + 1,by omega,hl,?_,fun i hi => ?_⟩,⟨rfl,rfl,rfl,?_,fun b _ hne => ?_⟩,?_⟩
 ·show (w.setCell ⟨bs,1,none⟩ (.int .i64 (k + 1))).heap[bs]? = _
  simp [World.setCell,Array.getElem?_modify,h3]
 ·obtain ⟨b,off,z,e1,e2,e3,e4⟩:=h4 i hi
  exact ⟨b,off,z,e1,e2,(World.cell?_setCell_other w _ _ _ (fun e => by injection e;omega)).trans e3,e4⟩
 ·show _ ≤ (w.setCell ⟨bs,1,none⟩ (.int .i64 (k + 1))).heap.size
  simp
 ·exact Below.heap_setCell w _ _ b (fun e => hne (by rw [e]))
 ·show (w.setCell ⟨bs,1,none⟩ (.int .i64 (k + 1))).heap.size = _
  simp
theorem next_any {bs K:Nat} (n:Int) {w:World} (hS:St w bs K) (hK:K ≤ 1099511627776) (hn:n ≤ 9223372036854775807) :
  Calls Tryz.prog 14 #[.pointer (some ⟨bs,0,none⟩),.int .i64 n] w (NextPost bs K n w):=by
 obtain ⟨A,len,cap,k,h1,h2,h3,h4⟩:=hS
 rcases Nat.eq_zero_or_pos len with hl | hl
 ·subst hl
  exact (next_none bs n A cap k w h3 (by omega) hn).mono fun e w' ⟨x,m,he,hw⟩ => by
   subst he;subst hw;exact next_post h1 h2 h3 h4
 ·obtain ⟨b,off,z,rfl,hb,hc,hz⟩:=h4 (k % len) (Nat.mod_lt _ hl)
  exact (next_some bs n b off len cap k z w h3 hl h2 (by omega) hb hc hn).mono fun e w' ⟨x,m,he,hw⟩ => by
   subst he;subst hw;exact next_post h1 h2 h3 h4
end Go.Proofs.YtfmnlpmgakgleaaGreatDoor
