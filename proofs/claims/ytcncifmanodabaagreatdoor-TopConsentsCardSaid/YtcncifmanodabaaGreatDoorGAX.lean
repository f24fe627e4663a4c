/- Texts of this claim, put together: Fam, NewGS, NewG. -/
import Derived.Test.YtcncifmanodabaaGreatDoorGAB
import Derived.Test.YtcncifmanodabaaGreatDoorGAW
import Derived.Maps.RangeWalk
import Derived.StillTailTactics
import Derived.Deep.Cut
namespace Go.Proofs.YtcncifmanodabaaGreatDoor
set_option linter.unusedVariables false
open Go.RowKit
noncomputable def upd {ι α:Type} (f:ι → α) (i:ι) (x:α):ι → α:=fun j => @ite α (j = i) (Classical.propDecidable _) x (f j)
theorem upd_self {ι α:Type} (f:ι → α) (i:ι) (x:α):upd f i x i = x:=by unfold upd;rw [if_pos rfl]
theorem upd_ne {ι α:Type} (f:ι → α) {i j:ι} (x:α) (h:j ≠ i):upd f i x j = f j:=by unfold upd;rw [if_neg h]
structure Fam {ι:Type} (W:World) (B:Nat) (S:ι → Prop) (T k:ι → Nat) (v:ι → Value) (n:ι → Nat) (cs:ι → List Value):Prop where
 own:∀ i,S i → W.ownsRow B (T i) (k i) (v i) (n i) (cs i)
 sep:∀ i j,S i → S j → i ≠ j → (v i).ownBlock = none ∨ (v i).ownBlock ≠ (v j).ownBlock
section
variable {ι:Type} {W W':World} {B:Nat} {S:ι → Prop} {T k:ι → Nat} {v:ι → Value} {n:ι → Nat} {cs:ι → List Value}
theorem Fam.kept (h:Fam W B S T k v n cs) {row:Option Nat} (hg:W.grownBy W' row) (hne:∀ i,S i → (v i).ownBlock = none ∨ (v i).ownBlock ≠ row):Fam W' B S T k v n cs :=
 ⟨fun i hi => (h.own i hi).kept hg (hne i hi),h.sep⟩
theorem Fam.below (h:Fam W B S T k v n cs) (hb:Below W.heap.size W W'):Fam W' B S T k v n cs :=
 h.kept (row:=none) ⟨hb.os,hb.tape,hb.output,hb.size,fun i hi _ => hb.block i hi⟩ (fun i _ => by cases e:(v i).ownBlock <;> simp)
theorem Fam.far (h:Fam W B S T k v n cs) {g:Nat} (hg:W.grownBy W' (some g)) (hne:g < B):Fam W' B S T k v n cs :=
 h.kept hg fun i hi => by
  cases e:(v i).ownBlock with
  | none => exact Or.inl rfl
  | some q => right;intro c;injection c with c;have:=((h.own i hi).lt _ e).1;omega
theorem Fam.put (h:Fam W B S T k v n cs) {i:ι} (hi:S i) (hg:W.grownBy W' (v i).ownBlock) {v':Value} {n':Nat} {cs':List Value} (ho:W'.ownsRow B (T i) (k i) v' n' cs')
  (hat:v'.ownBlock = (v i).ownBlock ∨ ∃ g,v'.ownBlock = some g ∧ W.heap.size ≤ g):Fam W' B S T k (upd v i v') (upd n i n') (upd cs i cs'):=by
 refine ⟨fun j hj => ?_,fun j l hj hl hne => ?_⟩
 ·by_cases e:j = i
  ·subst e
   rw [upd_self,upd_self,upd_self]
   exact ho
  ·rw [upd_ne _ _ e,upd_ne _ _ e,upd_ne _ _ e]
   exact (h.own j hj).kept hg (h.sep j i hj hi e)
 ·by_cases e:j = i
  ·subst e
   rw [upd_self,upd_ne _ _ (fun c => hne c.symm)]
   rcases hat with hat | ⟨g,hat,hge⟩
   ·rw [hat];exact h.sep j l hi hl hne
   ·right
    intro c
    rw [hat] at c
    have:=((h.own l hl).lt _ c.symm).2
    omega
  ·rw [upd_ne _ _ e]
   by_cases e2:l = i
   ·subst e2
    rw [upd_self]
    rcases hat with hat | ⟨g,hat,hge⟩
    ·rw [hat];exact h.sep j l hj hl hne
    ·cases e3:(v j).ownBlock with
     | none => exact Or.inl rfl
     | some q =>
      right
      intro c
      rw [hat] at c
      injection c with c
      have:=((h.own j hj).lt _ e3).2
      omega
   ·rw [upd_ne _ _ e2]
    exact h.sep j l hj hl hne
theorem ownsRow_heap {W W':World} {B T k n:Nat} {v:Value} {xs:List Value} (h:W.ownsRow B T k v n xs) (hk:∀ g,v.ownBlock = some g → W'.heap[g]? = W.heap[g]?):W'.ownsRow B T k v n xs:=by
 refine ⟨h.1,?_⟩
 rcases h.2 with h | ⟨g,cap,cur,hv,hB,hh,r⟩
 ·exact Or.inl h
 ·exact Or.inr ⟨g,cap,cur,hv,hB,(hk g (by rw [hv];rfl)).trans hh,r⟩
theorem Fam.put2 (h:Fam W B S T k v n cs) {i:ι} (hi:S i) (hk:∀ g,g < W.heap.size → B ≤ g → (v i).ownBlock ≠ some g → W'.heap[g]? = W.heap[g]?) {v':Value} {n':Nat} {cs':List Value} (ho:W'.ownsRow B (T i) (k i) v' n' cs')
  (hat:v'.ownBlock = (v i).ownBlock ∨ ∃ g,v'.ownBlock = some g ∧ W.heap.size ≤ g):Fam W' B S T k (upd v i v') (upd n i n') (upd cs i cs'):=by
 refine ⟨fun j hj => ?_,fun j l hj hl hne => ?_⟩
 ·by_cases e:j = i
  ·subst e
   rw [upd_self,upd_self,upd_self]
   exact ho
  ·rw [upd_ne _ _ e,upd_ne _ _ e,upd_ne _ _ e]
   refine ownsRow_heap (h.own j hj) fun g hg => ?_
   obtain ⟨h1,h2⟩:=(h.own j hj).lt _ hg
   refine hk g h2 h1 fun c => ?_
   rcases h.sep j i hj hi e with d | d
   ·rw [hg] at d;cases d
   ·exact d (hg.trans c.symm)
 ·by_cases e:j = i
  ·subst e
   rw [upd_self,upd_ne _ _ (fun c => hne c.symm)]
   rcases hat with hat | ⟨g,hat,hge⟩
   ·rw [hat];exact h.sep j l hi hl hne
   ·right
    intro c
    rw [hat] at c
    have:=((h.own l hl).lt _ c.symm).2
    omega
  ·rw [upd_ne _ _ e]
   by_cases e2:l = i
   ·subst e2
    rw [upd_self]
    rcases hat with hat | ⟨g,hat,hge⟩
    ·rw [hat];exact h.sep j l hj hl hne
    ·cases e3:(v j).ownBlock with
     | none => exact Or.inl rfl
     | some q =>
      right
      intro c
      rw [hat] at c
      injection c with c
      have:=((h.own j hj).lt _ e3).2
      omega
   ·rw [upd_ne _ _ e2]
    exact h.sep j l hj hl hne
theorem Fam.more (h:Fam W B S T k v n cs) (i:ι) (hv:v i = .slice none 0 0) (hn:n i = 0) (hc:cs i = []):Fam W B (fun j => S j ∨ j = i) T k v n cs:=by
 refine ⟨fun j hj => ?_,fun j l hj hl hne => ?_⟩
 ·rcases hj with hj | rfl
  ·exact h.own j hj
  ·rw [hv,hn,hc];exact World.ownsRow_nil _ _ _ _
 ·rcases hj with hj | rfl
  ·rcases hl with hl | rfl
   ·exact h.sep j l hj hl hne
   ·rw [hv]
    cases e:(v j).ownBlock with
    | none => exact Or.inl rfl
    | some q => right;simp [Value.ownBlock]
  ·left;rw [hv];rfl
theorem Fam.congr (h:Fam W B S T k v n cs) {S':ι → Prop} {v':ι → Value} {n':ι → Nat} {cs':ι → List Value} (hS:∀ i,S' i → S i) (hv:∀ i,S' i → v' i = v i) (hn:∀ i,S' i → n' i = n i) (hc:∀ i,S' i → cs' i = cs i):Fam W B S' T k v' n' cs' :=
 ⟨fun i hi => by rw [hv i hi,hn i hi,hc i hi];exact h.own i (hS i hi),fun i j hi hj hne => by rw [hv i hi,hv j hj];exact h.sep i j (hS i hi) (hS j hj) hne⟩
end
def Rg (P:Program) (k:TypeId) (w:World) (b r n:Nat) (m:Lit → Option Value) (left:Lit → Bool) (cnt:Nat):Prop :=
 ∃ D:DataW Value,w.ranges P k heldR b r n D left cnt ∧ ∀ l,WideAt.IsKeyLit l → Maps.has D l = (m l).isSome ∧ ∀ v,m l = some v → ∀ z,D.atKey l z = .held v
section
variable {P:Program} {k e t:TypeId} {w w':World} {b r n:Nat} {m:Lit → Option Value} {left:Lit → Bool} {cnt:Nat}
theorem Rg.mp (h:Rg P k w b r n m left cnt):Mp P k w b n m:=by
 obtain ⟨D,h1,h2⟩:=h
 exact ⟨D,h1.owns,h2⟩
theorem Rg.left_eq (h:Rg P k w b r n m left cnt):w.rangeLeft b r = cnt:=by
 obtain ⟨D,h1,h2⟩:=h
 exact h1.left_eq
theorem Rg.ne (h:Rg P k w b r n m left cnt):r ≠ b:=by
 obtain ⟨D,h1,h2⟩:=h
 exact h1.ne
theorem Rg.lt (h:Rg P k w b r n m left cnt):r < w.heap.size:=by
 obtain ⟨D,h1,h2⟩:=h
 exact h1.lt
theorem Rg.kept {row:Option Nat} (h:Rg P k w b r n m left cnt) (hg:w.grownBy w' row) (hb:some b ≠ row) (hr:some r ≠ row):Rg P k w' b r n m left cnt:=by
 obtain ⟨D,h1,h2⟩:=h
 exact ⟨D,h1.kept hg hb hr,h2⟩
theorem Rg.below (h:Rg P k w b r n m left cnt) (hb:Below w.heap.size w w'):Rg P k w' b r n m left cnt :=
 h.kept (row:=none) ⟨hb.os,hb.tape,hb.output,hb.size,fun i hi _ => hb.block i hi⟩ (by simp) (by simp)
end
section
variable {P:Program} (w:World) {ops:Array Oper} {rest:List Oper} {o:Oper} {a:Act} {Q:Exit → Act → World → Prop}
theorem wpList_range_mp (hg:o.guard = none) (mo:Operand) (t:TypeId) (hop:o.op = Op.range t mo) (k e:TypeId) (K:Maps.Keyed P k) (ht:P.underlying t = some (.map k e)) (b n:Nat) (m:Lit → Option Value)
  (hm:a.eval mo = .map (some b)) (hown:Mp P k w b n m)
  (hK:∀ w' left cnt,(∀ l,WideAt.IsKeyLit l → left l = (m l).isSome) → Rg P k w' b w.heap.size n m left cnt → w.grownBy w' none → w'.heap.size = w.heap.size + 1 → wpList P ops Q rest (a.put o.dst (.pointer (some ⟨w.heap.size,0,none⟩))) w') :
  wpList P ops Q (o :: rest) a w:=by
 obtain ⟨D,h1,h2⟩:=hown
 refine wpList_range_own w hg mo t hop k e K ht heldR b n D hm h1 ?_
 intro w' r1 r2 r3
 exact hK w' _ _ (fun l hl => (h2 l hl).1) ⟨D,r1,h2⟩ r2 r3
theorem wpList_next_mp {α:Type} (hg:o.guard = none) (it:Operand) (hop:o.op = Op.next it false) (k:TypeId) (K:Maps.Keyed P k) (mkK:α → Value) (b r n:Nat) (m:Lit → Option Value) (left:Lit → Bool) (cnt:Nat)
  (hit:a.eval it = .pointer (some ⟨r,0,none⟩)) (h:Rg P k w b r n m left cnt) (hmk:∀ l,left l = true → WideAt.IsKeyLit l → ∃ x,keyOf P k (mkK x) = some l)
  (hDone:cnt = 0 → (∀ kl,left kl = false) → wpList P ops Q rest (a.put o.dst (.tuple #[.bool false])) w)
  (hMore:∀ (x:α) (c:Value) (kl:Lit) (w':World) (cnt':Nat),keyOf P k (mkK x) = some kl → left kl = true → m kl = some c → Rg P k w' b r n m (fun z => left z && !z.sameKey kl) cnt' → cnt' < cnt →
   w.grownBy w' (some r) → w'.heap.size = w.heap.size → (Instr.entry (.pointer (some ⟨r,0,none⟩))).run P w' = .ok (.tuple #[mkK x,c]) w' → wpList P ops Q rest (a.put o.dst (.tuple #[.bool true,mkK x,c])) w') :
  wpList P ops Q (o :: rest) a w:=by
 obtain ⟨D,h1,h2⟩:=h
 refine wpList_plain hg fun K' hK' => ?_
 unfold Oper.wp
 rcases h1.next K o.type with ⟨h0,hl,hrun⟩ | ⟨key,v,kl,y,w',cnt',hkey,hlk,hv,hat,hrun,hrg,hlt,hgr,hsz,hen⟩
 ·simp [execOp,hop,hit,hrun,Result.andThen]
  exact hK' _ _ (hDone h0 hl)
 ·have hkl:WideAt.IsKeyLit kl:=K.key hkey
  obtain ⟨x,hx⟩:=hmk kl hlk hkl
  obtain rfl:=K.inj hkey hx
  obtain ⟨e1,e2⟩:=h2 kl hkl
  have hy:y = (.held v,[]):=by unfold heldR at hv;injection hv with hv;exact hv.symm
  have hmv:m kl = some v:=by
   cases hm:m kl with
   | none =>
    rw [hm] at e1
    have:=Maps.has_true_of_atKey hat
    rw [this] at e1
    cases e1
   | some u =>
    have h3:=e2 u hm (.held u)
    rw [hat,hy] at h3
    injection h3 with h3
    rw [h3]
  simp [execOp,hop,hit,hrun,Result.andThen]
  exact hK' _ _ (hMore x v kl w' cnt' hx hlk hmv ⟨D,hrg,h2⟩ hlt hgr hsz hen)
end
open Go.RowKit
def nilV:Value:=.slice none 0 0
structure HavS (w:World) (B bm N:Nat) (pos:IdD → List Int) (n:Nat) (m:Lit → Option Value) (W:World):Prop where
 bel:Below w.heap.size w W
 map:Mp Tryz.prog 36 W bm n m
 le:n ≤ N
 keys:∀ l,(m l).isSome = true → ∃ x,FitId x ∧ l = klId x ∧ pos x ≠ []
 vals:∀ x,FitId x → pos x ≠ [] → (m (klId x)).isSome = true
 fam:Fam W B FitId (fun _ => 3) (fun _ => 1) (fun x => (m (klId x)).getD nilV) (fun x => (pos x).length) (fun x => cellsOf 1 fI (pos x))
 ge:w.heap.size ≤ bm
 lt:bm < B
section
variable {w W W':World} {B bm N n:Nat} {pos:IdD → List Int} {m:Lit → Option Value}
theorem HavS.call (h:HavS w B bm N pos n m W) (hb:Below W.heap.size W W'):HavS w B bm N pos n m W' :=
 ⟨h.bel.trans (hb.mono h.bel.size),h.map.below hb,h.le,h.keys,h.vals,h.fam.below hb,h.ge,h.lt⟩
theorem HavS.row (h:HavS w B bm N pos n m W) {x:IdD} (hx:FitId x):Orow W B 3 1 fI ((m (klId x)).getD nilV) (pos x):=h.fam.own x hx
theorem HavS.row_ne (h:HavS w B bm N pos n m W) {x:IdD} (hx:FitId x):((m (klId x)).getD nilV).ownBlock ≠ some bm:=by
 intro c
 have:=((h.row hx).lt c).1
 have:=h.lt
 omega
theorem HavS.start (hb:Below w.heap.size w W) (hm:Mp Tryz.prog 36 W bm 0 mpNew) (hg:w.heap.size ≤ bm) (hl:bm < B):HavS w B bm 0 (fun _ => []) 0 mpNew W :=
 ⟨hb,hm,Nat.le_refl _,fun l hl => (by cases hl),fun x _ h => absurd rfl h,⟨fun x _ => World.ownsRow_nil _ _ _ _,fun x y _ _ _ => Or.inl rfl⟩,hg,hl⟩
theorem HavS.congr (h:HavS w B bm N pos n m W) {pos':IdD → List Int} {N':Nat} (e:∀ x,pos' x = pos x) (hN:N ≤ N'):HavS w B bm N' pos' n m W:=by
 have:pos' = pos:=funext e
 subst this
 exact ⟨h.bel,h.map,Nat.le_trans h.le hN,h.keys,h.vals,h.fam,h.ge,h.lt⟩
theorem HavS.put (h:HavS w B bm N pos n m W) {x:IdD} (hx:FitId x) {v':Value} {i:Int} (hsz:W.heap.size ≤ W'.heap.size) (hos:W'.os = W.os) (htp:W'.tape = W.tape) (hop:W'.output = W.output)
  (hk:∀ k,k < W.heap.size → k ≠ bm → some k ≠ ((m (klId x)).getD nilV).ownBlock → W'.heap[k]? = W.heap[k]?) (hm:Mp Tryz.prog 36 W' bm (n + 1) (mpSet m (klId x) v'))
  (ho:Orow W' B 3 1 fI v' (pos x ++ [i])) (hat:v'.ownBlock = ((m (klId x)).getD nilV).ownBlock ∨ ∃ g,v'.ownBlock = some g ∧ W.heap.size ≤ g) :
  HavS w B bm (N + 1) (fun y => if eqId y x = true then pos x ++ [i] else pos y) (n + 1) (mpSet m (klId x) v') W':=by
 have hge:=h.ge
 have hlt:=h.lt
 have hset:∀ y,FitId y → mpSet m (klId x) v' (klId y) = if eqId y x = true then some v' else m (klId y):=by
  intro y hy
  unfold mpSet
  by_cases e:eqId y x = true
  ·rw [if_pos e,eqId_iff.1 e,WideAt.sameKey_self (idKeyed.key (keyId hx))]
   rfl
  ·rw [if_neg e,if_neg]
   intro c
   exact e (by rw [klId_inj hy hx (WideAt.sameKey_eq c)];exact eqId_self x)
 refine ⟨⟨hos.trans h.bel.os,htp.trans h.bel.tape,hop.trans h.bel.output,Nat.le_trans h.bel.size hsz,fun k hk' => ?_⟩,hm,Nat.succ_le_succ h.le,fun l hl => ?_,fun y hy hp => ?_,?_,h.ge,h.lt⟩
 ·refine (hk k (Nat.lt_of_lt_of_le hk' h.bel.size) (by omega) (fun c => ?_)).trans (h.bel.block k hk')
  have:=((h.row hx).lt c.symm).1
  omega
 ·unfold mpSet at hl
  by_cases e:l.sameKey (klId x) = true
  ·refine ⟨x,hx,WideAt.sameKey_eq e,?_⟩
   rw [if_pos (eqId_self x)]
   simp
  ·rw [if_neg e] at hl
   obtain ⟨y,hy,rfl,hp⟩:=h.keys l hl
   refine ⟨y,hy,rfl,?_⟩
   split
   ·simp
   ·exact hp
 ·rw [hset y hy]
  split
  ·rfl
  ·rename_i e
   rw [if_neg e] at hp
   exact h.vals y hy hp
 ·have hf:=h.fam.put2 (i:=x) hx (W':=W') (v':=v') (n':=(pos x ++ [i]).length) (cs':=cellsOf 1 fI (pos x ++ [i])) (fun g h1 h2 h3 => hk g h1 (by omega) (fun c => h3 c.symm)) ho hat
  refine hf.congr (fun _ h => h) (fun y hy => ?_) (fun y hy => ?_) (fun y hy => ?_)
  ·rw [hset y hy]
   by_cases e:y = x
   ·subst e
    rw [if_pos (eqId_self y),upd_self]
    rfl
   ·rw [if_neg (fun c => e (eqId_iff.1 c)),upd_ne _ _ e]
  ·by_cases e:y = x
   ·subst e
    rw [if_pos (eqId_self y),upd_self]
   ·rw [if_neg (fun c => e (eqId_iff.1 c)),upd_ne _ _ e]
  ·by_cases e:y = x
   ·subst e
    rw [if_pos (eqId_self y),upd_self]
   ·rw [if_neg (fun c => e (eqId_iff.1 c)),upd_ne _ _ e]
end
def posIJ (ts:List TchD) (ids:List IdD) (i j:Nat) (x:IdD):List Int:=posN ts x i ++ if hasId (ids.take j) x = true then [(i:Int)] else []
theorem posN_le (ts:List TchD) (x:IdD) (n:Nat):(posN ts x n).length ≤ n:=by
 unfold posN
 rw [List.length_map]
 exact Nat.le_trans (List.length_filter_le _ _) (by rw [List.length_range];exact Nat.le_refl _)
theorem posIJ_le (ts:List TchD) (ids:List IdD) (i j:Nat) (x:IdD):(posIJ ts ids i j x).length ≤ i + 1:=by
 unfold posIJ
 rw [List.length_append]
 have:=posN_le ts x i
 split <;> simp <;> omega
theorem posIJ_zero (ts:List TchD) (ids:List IdD) (i:Nat) (x:IdD):posIJ ts ids i 0 x = posN ts x i:=by
 unfold posIJ
 simp [hasId]
theorem posIJ_full (ts:List TchD) {i:Nat} (h:i < ts.length) (x:IdD):posIJ ts ts[i].ids i ts[i].ids.length x = posN ts x (i + 1):=by
 unfold posIJ
 rw [List.take_length,posN_succ ts x h]
theorem posIJ_succ (ts:List TchD) {ids:List IdD} (hn:ids.Pairwise (· ≠ ·)) (i:Nat) {j:Nat} (h:j < ids.length) (y:IdD):posIJ ts ids i (j + 1) y = if eqId y ids[j] = true then posIJ ts ids i j ids[j] ++ [(i:Int)] else posIJ ts ids i j y:=by
 have hx:hasId (ids.take j) ids[j] = false:=by
  cases e:hasId (ids.take j) ids[j] with
  | false => rfl
  | true =>
   obtain ⟨k,hk,ek⟩:=List.getElem_of_mem (hasId_iff.1 e)
   rw [List.length_take] at hk
   rw [List.getElem_take] at ek
   exact absurd ek (List.pairwise_iff_getElem.1 hn k j (by omega) h (by omega))
 unfold posIJ
 by_cases e:eqId y ids[j] = true
 ·obtain rfl:=eqId_iff.1 e
  have hy:hasId (ids.take (j + 1)) ids[j] = true:=by
   rw [hasId_iff,List.take_succ_eq_append_getElem h]
   exact List.mem_append_right _ (List.mem_singleton.2 rfl)
  rw [if_pos hy,if_pos e,hx]
  simp
 ·rw [if_neg e]
  congr 1
  have:hasId (ids.take (j + 1)) y = hasId (ids.take j) y:=by
   unfold hasId
   rw [List.take_succ_eq_append_getElem h,List.any_append]
   simp
   intro c
   exact absurd c e
  rw [this]
open Go.RowKit
def grpObj (r:RulD) (A:Option Addr) (n cap bm:Nat):Obj:=.cells #[.slice r.ka r.kinds.length r.kc,.int .i64 r.most,.slice r.wa r.weaks.length r.wc,.slice r.sa r.surs.length r.sc,.slice A n cap,.map (some bm)] 124
def φNg {gp bm:Nat} (x:IdD) (v0:Value) (ii:Int) (i:Nat) (v:Value) (_:World):Prop :=
 match i with
 | 0 => v = .pointer (some ⟨gp,0,none⟩)
 | 1 => v = .pointer (some ⟨gp,0,none⟩)
 | 2 => v = .pointer (some ⟨gp,5,none⟩)
 | 3 => v = .map (some bm)
 | 4 => v = .agg #[.int .i64 x.kind,.string x.text]
 | 5 => v = .int .i64 ii
 | 7 => ∃ st:Nat,v = .tuple #[v0,goInt st]
 | 8 => v = v0
 | _ => True
def NewGPost (w:World) (r:RulD) (A:Option Addr) (cap:Nat) (ts:List TchD) (e:Ending) (w':World):Prop:=∃ gp bm n m,e = .returned (.pointer (some ⟨gp,0,none⟩)) ∧ HavS w (w.heap.size + 3) bm (20 * ts.length) (posL ts) n m w' ∧ w'.heap[gp]? = some (grpObj r A ts.length cap bm) ∧ w.heap.size ≤ gp
set_option maxHeartbeats 4000000 in
set_option maxRecDepth 100000 in
theorem newGroup_any (H:Frz) (r:RulD) (A:Option Addr) (cap:Nat) (ts:List TchD) (w:World) (hH:H.In w) (hT:TchIn H A ts) (hl:ts.length ≤ 100000) (hil:∀ t ∈ ts,t.ids.length ≤ 20 ∧ (∀ x ∈ t.ids,FitId x) ∧ t.ids.Pairwise (· ≠ ·)) :
  Calls Tryz.prog 38 #[.agg #[.slice r.ka r.kinds.length r.kc,.int .i64 r.most,.slice r.wa r.weaks.length r.wc,.slice r.sa r.surs.length r.sc],.slice A ts.length cap] w (NewGPost w r A cap ts):=by
 have HT:=Lib.hid hT
 have HH:=Lib.hid hH
 have HIL:=Lib.hid hil
 have hmm:=@run_makeMap Tryz.prog
 have HB1:=Lib.hid (new1 (w:=w) (.cells #[.slice r.ka r.kinds.length r.kc,.int .i64 r.most,.slice r.wa r.weaks.length r.wc,.slice r.sa r.surs.length r.sc] 60))
 have HM:=Lib.hid (((Mp.made Tryz.prog 36 (w.alloc (.cells #[.slice r.ka r.kinds.length r.kc,.int .i64 r.most,.slice r.wa r.weaks.length r.wc,.slice r.sa r.surs.length r.sc] 60))).alloc (grpObj r A ts.length cap (w.heap.size + 1))))
 have J0:Hid (HavS w (w.heap.size + 3) (w.heap.size + 1) 0 (fun _ => []) 0 mpNew (((w.alloc (.cells #[.slice r.ka r.kinds.length r.kc,.int .i64 r.most,.slice r.wa r.weaks.length r.wc,.slice r.sa r.surs.length r.sc] 60)).alloc (.map #[] 0)).alloc (grpObj r A ts.length cap (w.heap.size + 1)))):=by
  refine HavS.start (((HB1.out).alloc HB1.out.size _).alloc (by simp;omega) _) ?_ (by omega) (by omega)
  have:=HM.out
  simpa using this
 have G0:Hid ((((w.alloc (.cells #[.slice r.ka r.kinds.length r.kc,.int .i64 r.most,.slice r.wa r.weaks.length r.wc,.slice r.sa r.surs.length r.sc] 60)).alloc (.map #[] 0)).alloc (grpObj r A ts.length cap (w.heap.size + 1))).heap[w.heap.size + 2]? = some (grpObj r A ts.length cap (w.heap.size + 1))):=heap_at (by simp)
 clear hT hH hil HB1 HM
 have c0:(w.alloc (.cells #[.slice r.ka r.kinds.length r.kc,.int .i64 r.most,.slice r.wa r.weaks.length r.wc,.slice r.sa r.surs.length r.sc] 60)).cell? ⟨w.heap.size,0,none⟩ = some (.slice r.ka r.kinds.length r.kc):=newc 0 rfl
 have c1:(w.alloc (.cells #[.slice r.ka r.kinds.length r.kc,.int .i64 r.most,.slice r.wa r.weaks.length r.wc,.slice r.sa r.surs.length r.sc] 60)).cell? ⟨w.heap.size,1,none⟩ = some (.int .i64 r.most):=newc 1 rfl
 have c2:(w.alloc (.cells #[.slice r.ka r.kinds.length r.kc,.int .i64 r.most,.slice r.wa r.weaks.length r.wc,.slice r.sa r.surs.length r.sc] 60)).cell? ⟨w.heap.size,2,none⟩ = some (.slice r.wa r.weaks.length r.wc):=newc 2 rfl
 have c3:(w.alloc (.cells #[.slice r.ka r.kinds.length r.kc,.int .i64 r.most,.slice r.wa r.weaks.length r.wc,.slice r.sa r.surs.length r.sc] 60)).cell? ⟨w.heap.size,3,none⟩ = some (.slice r.sa r.surs.length r.sc):=newc 3 rfl
 go_enter Tryz.func38,Tryz.ntmps38
 go_wp2_with fail
 simp only [grpObj] at J0 G0
 clear c0 c1 c2 c3 hmm
 generalize ((w.alloc (.cells #[.slice r.ka r.kinds.length r.kc,.int .i64 r.most,.slice r.wa r.weaks.length r.wc,.slice r.sa r.surs.length r.sc] 60)).alloc (.map #[] 0)).alloc (.cells #[.slice r.ka r.kinds.length r.kc,.int .i64 r.most,.slice r.wa r.weaks.length r.wc,.slice r.sa r.surs.length r.sc,.slice A ts.length cap,.map (some (w.heap.size + 1))] 124) = W0 at *
 obtain ⟨sz,hsz⟩:∃ sz,sz = w.heap.size:=⟨_,rfl⟩
 obtain ⟨gp,hgp⟩:∃ gp,gp = w.heap.size + 1 + 1:=⟨_,rfl⟩
 obtain ⟨bm,hbm⟩:∃ bm,bm = w.heap.size + 1:=⟨_,rfl⟩
 obtain ⟨B,hB⟩:∃ B,B = w.heap.size + 3:=⟨_,rfl⟩
 rw [show w.heap.size + 2 = w.heap.size + 1 + 1 from rfl] at G0
 rw [← hgp,← hbm] at G0 ⊢
 rw [← hbm,← hB] at J0
 have HNUM:Hid (gp = w.heap.size + 2 ∧ bm = w.heap.size + 1 ∧ B = w.heap.size + 3):=⟨hgp,hbm,hB⟩
 clear hsz hgp hbm hB
 obtain ⟨GO,hGO⟩:∃ GO,GO = grpObj r A ts.length cap bm:=⟨_,rfl⟩
 have G0:Hid (W0.heap[gp]? = some GO):=by rw [hGO];exact G0.out
 have HGO:=Lib.hid hGO
 clear hGO
 go_loopw [17] (fun t wr => ∃ i:Nat,i ≤ ts.length ∧ t = .int .i64 i ∧ Hid (∃ n m,HavS w B bm (20 * i) (fun x => posN ts x i) n m wr) ∧ Hid (wr.heap[gp]? = some GO)) (fun t _ => ts.length - (intOf t).toNat)
 case atStart => exact ⟨0,by omega,rfl,⟨0,mpNew,J0.out.congr (fun x => rfl) (by omega)⟩,G0⟩
 case round =>
  obtain ⟨i,hi,rfl,J,G⟩:=hrel
  clear J0 G0
  by_cases hlt:i < ts.length
  ·obtain ⟨n,m,JS⟩:=J.out
   have HIN:=Lib.hid (HH.out.below JS.bel)
   obtain ⟨b,off,hA,_,hc⟩:=HT.out.1.at_ HIN.out hlt (by omega)
   have c0:wr.cell? ⟨b,off + i * 5,none⟩ = some (.int .i64 ts[i].no):=hc 0 (by omega)
   have c1:wr.cell? ⟨b,off + i * 5 + 1,none⟩ = some (.int .i64 ts[i].at_):=hc 1 (by omega)
   have c2:wr.cell? ⟨b,off + i * 5 + 2,none⟩ = some (.string ts[i].source):=hc 2 (by omega)
   have c3:wr.cell? ⟨b,off + i * 5 + 3,none⟩ = some (.slice ts[i].ia ts[i].ids.length ts[i].ic):=hc 3 (by omega)
   have c4:wr.cell? ⟨b,off + i * 5 + 4,none⟩ = some (.slice ts[i].fa ts[i].fields.length ts[i].fc):=hc 4 (by omega)
   have HTI:=Lib.hid (HT.out.2 _ (List.getElem_mem hlt)).1
   have HTL:=Lib.hid (HIL.out _ (List.getElem_mem hlt))
   have HFULL:=Lib.hid (posIJ_full ts hlt)
   have hlt2:(i:Int) < ts.length:=by omega
   have JA:Hid (∃ n m,HavS w B bm (20 * i + 0) (posIJ ts ts[i].ids i 0) n m wr):=⟨n,m,JS.congr (posIJ_zero ts _ i) (by omega)⟩
   subst hA
   clear hc J JS
   generalize ts[i] = d at *
   have z0:(wr.alloc (.cells #[.int .i64 d.no,.int .i64 d.at_,.string d.source,.slice d.ia d.ids.length d.ic,.slice d.fa d.fields.length d.fc] 91)).cell? ⟨wr.heap.size,0,none⟩ = some (.int .i64 d.no):=newc 0 rfl
   have z1:(wr.alloc (.cells #[.int .i64 d.no,.int .i64 d.at_,.string d.source,.slice d.ia d.ids.length d.ic,.slice d.fa d.fields.length d.fc] 91)).cell? ⟨wr.heap.size,1,none⟩ = some (.int .i64 d.at_):=newc 1 rfl
   have z2:(wr.alloc (.cells #[.int .i64 d.no,.int .i64 d.at_,.string d.source,.slice d.ia d.ids.length d.ic,.slice d.fa d.fields.length d.fc] 91)).cell? ⟨wr.heap.size,2,none⟩ = some (.string d.source):=newc 2 rfl
   have z3:(wr.alloc (.cells #[.int .i64 d.no,.int .i64 d.at_,.string d.source,.slice d.ia d.ids.length d.ic,.slice d.fa d.fields.length d.fc] 91)).cell? ⟨wr.heap.size,3,none⟩ = some (.slice d.ia d.ids.length d.ic):=newc 3 rfl
   have z4:(wr.alloc (.cells #[.int .i64 d.no,.int .i64 d.at_,.string d.source,.slice d.ia d.ids.length d.ic,.slice d.fa d.fields.length d.fc] 91)).cell? ⟨wr.heap.size,4,none⟩ = some (.slice d.fa d.fields.length d.fc):=newc 4 rfl
   have HBN:=Lib.hid (new1 (w:=wr) (.cells #[.int .i64 d.no,.int .i64 d.at_,.string d.source,.slice d.ia d.ids.length d.ic,.slice d.fa d.fields.length d.fc] 91))
   go_upto_region 5 with (fail)
   clear c0 c1 c2 c3 c4
   have JB:Hid (∃ n m,HavS w B bm (20 * i + 0) (posIJ ts d.ids i 0) n m (wr.alloc (.cells #[.int .i64 d.no,.int .i64 d.at_,.string d.source,.slice d.ia d.ids.length d.ic,.slice d.fa d.fields.length d.fc] 91))):=by
    obtain ⟨n,m,h⟩:=JA.out
    exact ⟨n,m,h.call HBN.out⟩
   have GB:Hid ((wr.alloc (.cells #[.int .i64 d.no,.int .i64 d.at_,.string d.source,.slice d.ia d.ids.length d.ic,.slice d.fa d.fields.length d.fc] 91)).heap[gp]? = some GO):=(HBN.out.block _ (lt_of_heap G.out)).trans G.out
   clear JA G HBN
   generalize wr.alloc (.cells #[.int .i64 d.no,.int .i64 d.at_,.string d.source,.slice d.ia d.ids.length d.ic,.slice d.fa d.fields.length d.fc] 91) = W1 at *
   generalize d.ia = ia at *
   obtain ⟨W1',rfl⟩:∃ W1':World,W1' = W1:=⟨_,rfl⟩
   go_wp2_with fail
   go_loopw [25] (fun t wr => ∃ j:Nat,j ≤ d.ids.length ∧ t = .int .i64 j ∧ Hid (∃ n m,HavS w B bm (20 * i + j) (posIJ ts d.ids i j) n m wr) ∧ Hid (wr.heap[gp]? = some GO)) (fun t _ => d.ids.length - (intOf t).toNat)
   case atStart => exact ⟨0,by omega,rfl,JB,GB⟩
   case round =>
    obtain ⟨j,hj,rfl,J,G⟩:=hrel
    clear JB GB
    by_cases hlj:j < d.ids.length
    ·obtain ⟨n,m,JS⟩:=J.out
     have HIN2:=Lib.hid (HH.out.below JS.bel)
     obtain ⟨b,off,hA2,_,hc⟩:=HTI.out.at_ HIN2.out hlj (by omega)
     have e0:wr.cell? ⟨b,off + j * 2,none⟩ = some (.int .i64 d.ids[j].kind):=hc 0 (by omega)
     have e1:wr.cell? ⟨b,off + j * 2 + 1,none⟩ = some (.string d.ids[j].text):=hc 1 (by omega)
     have HX:=Lib.hid (HTL.out.2.1 _ (List.getElem_mem hlj))
     have HSUC:=Lib.hid (posIJ_succ ts HTL.out.2.2 i hlj)
     have hlj2:(j:Int) < d.ids.length:=by omega
     have hi0':∃ i0,Tryz.prog.info? 3 = some i0 ∧ i0.zero = some (.int .i64 0) ∧ i0.size = 1 ∧ i0.bytes = 8:=by
      obtain ⟨i0,h1,h2,h3,h4⟩:=info_parts (show (Tryz.prog.info? 3).map (fun i => (i.zero,i.size,i.bytes)) = some (some (.int .i64 0),1,8) by kernel_rfl)
      exact ⟨i0,h1,h2,h3,h4⟩
     obtain ⟨i0,hi0,hz0,hz1,hz2⟩:=hi0'
     have HI0:=Lib.hid hi0
     subst hA2
     clear J hc hi0
     generalize d.ids[j] = x at *
     have z0:(wr.alloc (.cells #[.int .i64 x.kind,.string x.text] 36)).cell? ⟨wr.heap.size,0,none⟩ = some (.int .i64 x.kind):=newc 0 rfl
     have z1:(wr.alloc (.cells #[.int .i64 x.kind,.string x.text] 36)).cell? ⟨wr.heap.size,1,none⟩ = some (.string x.text):=newc 1 rfl
     have HBN:=Lib.hid (new1 (w:=wr) (.cells #[.int .i64 x.kind,.string x.text] 36))
     go_upto_region 8 with (fail)
     clear e0 e1
     have JC:=Lib.hid (JS.call HBN.out)
     have GC:Hid ((wr.alloc (.cells #[.int .i64 x.kind,.string x.text] 36)).heap[gp]? = some GO):=(HBN.out.block _ (lt_of_heap G.out)).trans G.out
     have XC:Hid ((wr.alloc (.cells #[.int .i64 x.kind,.string x.text] 36)).heap[wr.heap.size]? = some (.cells #[.int .i64 x.kind,.string x.text] 36)):=heap_alloc_new _ _
     have HQX:Hid (gp < wr.heap.size):=lt_of_heap G.out
     have HQV:Hid (∀ g,((m (klId x)).getD nilV).ownBlock = some g → B ≤ g ∧ g < wr.heap.size):=fun g hg => (JS.row HX.out).lt hg
     have HQS:Hid (wr.heap.size < (wr.alloc (.cells #[.int .i64 x.kind,.string x.text] 36)).heap.size):=by show _ < _;simp
     clear JS G HBN
     generalize wr.heap.size = qx at *
     generalize wr.alloc (.cells #[.int .i64 x.kind,.string x.text] 36) = W2 at *
     have HGB:Hid (gp ≠ bm ∧ qx ≠ bm ∧ B ≤ W2.heap.size ∧ bm < W2.heap.size ∧ gp < W2.heap.size ∧ gp < B):=by
      have h1:=HNUM.out
      have h2:=HQX.out
      have h3:=HQS.out
      show _ ∧ _
      omega
     have HROW:=Lib.hid (JC.out.row HX.out)
     have HVB:=Lib.hid (JC.out.row_ne HX.out)
     have HENT:Hid (∀ W:World,W.heap[bm]? = W2.heap[bm]? → ∃ (st:Nat) (es1:Array MapEntry) (c1:Nat),(Instr.mapEntry 122 (.map (some bm)) (.agg #[.int .i64 x.kind,.string x.text])).run Tryz.prog W = .ok (.tuple #[(m (klId x)).getD nilV,goInt st]) (ChangeMaps.setBlock W bm (.map es1 c1)) ∧ StoreOk bm n m (klId x) st es1 c1):=fun W hW =>
      (JC.out.map.block hW).entry idLaw Tryz.underlying122 (fun u => by kernel_rfl) (by have:=JC.out.le;have:=HTL.out.1;simp only [maxLen];omega) (keyId HX.out)
     have HPL:=Lib.hid (posIJ_le ts d.ids i j x)
     have HPUT:=Lib.hid (fun (W:World) (v':Value) => JC.out.put (W':=W) (v':=v') (i:=(i:Int)) HX.out)
     obtain ⟨zs,hzs⟩:∃ zs,zs = posIJ ts d.ids i j x:=⟨_,rfl⟩
     rw [← hzs] at HROW HPL HSUC HPUT
     generalize hv0:(m (klId x)).getD nilV = v0 at *
     have HVL:Hid (∀ g,v0.ownBlock = some g → g < W2.heap.size):=fun g hg => by
      have h1:=HQV.out g hg
      have h3:=HQS.out
      omega
     clear hv0 hzs JC
     have HGK:Hid (∃ c0 c1 c2 c3 c4,GO = .cells #[c0,c1,c2,c3,c4,.map (some bm)] 124 (0,0)):=⟨_,_,_,_,_,HGO.out⟩
     obtain ⟨g0,g1,g2,g3,g4,hGK⟩:=HGK.out
     have HGG:Hid (∀ L a W,EnJ W2 B bm n m (klId x) v0 zs i L a W → W.heap[gp]? = some (.cells #[g0,g1,g2,g3,g4,.map (some bm)] 124 (0,0))):=fun L a W h => by
      have h1:=HGB.out
      rw [← hGK]
      refine (h.keep gp h1.2.2.2.2.1 h1.1 (fun c => ?_)).trans GC.out
      have:=HQV.out gp c.symm
      omega
     have HXX:Hid (∀ L a W,EnJ W2 B bm n m (klId x) v0 zs i L a W → W.heap[qx]? = some (.cells #[.int .i64 x.kind,.string x.text] 36)):=fun L a W h => by
      have h1:=HGB.out
      refine (h.keep qx HQS.out h1.2.1 (fun c => ?_)).trans XC.out
      have:=HQV.out qx c.symm
      omega
     clear hGK HGK
     go_wp2_with fail
     refine wp_region_concV 11 43 (φNg (gp:=gp) (bm:=bm) x v0 i) (EnJ W2 B bm n m (klId x) v0 zs i) (fun _ _ => True) (by kernel_rfl) (by kernel_rfl) (by rfl) (EnJ.start HROW.out _ _) (fun i x w w' _ _ h => h) (fun i x w hi e _ => absurd e (by have hcs:i = 0 ∨ i = 1 ∨ i = 2 ∨ i = 3 ∨ i = 4 ∨ i = 5 ∨ i = 6 ∨ i = 7 ∨ i = 8 ∨ i = 9 ∨ i = 10:=(by omega);rcases hcs with rfl | rfl | rfl | rfl | rfl | rfl | rfl | rfl | rfl | rfl | rfl <;> decide)) ?_ ?_
     ·intro ii o hi8 ho a W3 L hr hsN hLs hJ hkn
      replace hsN:a.tmps.size = 43:=hsN
      have hcs:ii = 0 ∨ ii = 1 ∨ ii = 2 ∨ ii = 3 ∨ ii = 4 ∨ ii = 5 ∨ ii = 6 ∨ ii = 7 ∨ ii = 8 ∨ ii = 9 ∨ ii = 10:=by omega
      rcases hcs with rfl | rfl | rfl | rfl | rfl | rfl | rfl | rfl | rfl | rfl | rfl
      ·obtain rfl:=Option.some.inj ho
       refine OpV.mono (R:=fun v w' => φNg (gp:=gp) (bm:=bm) x v0 i 0 v w' ∧ w' = W3) ?_ (fun v w' h => ⟨h.1,h.2 ▸ hJ.read (by decide) (fun e => absurd e (by decide)) (by decide) _,trivial⟩)
       exact ⟨hkn 5 (by decide),rfl⟩
      ·obtain rfl:=Option.some.inj ho
       refine OpV.mono (R:=fun v w' => φNg (gp:=gp) (bm:=bm) x v0 i 1 v w' ∧ w' = W3) ?_ (fun v w' h => ⟨h.1,h.2 ▸ hJ.read (by decide) (fun e => absurd e (by decide)) (by decide) _,trivial⟩)
       have h0:=slotv (hkn 29 (by decide):a.tmps.getD 29 undef = .pointer (some ⟨gp,0,none⟩))
       clear hkn ho
       simp only [OpV,execOp]
       simp [go_sem,h0]
       all_goals first | exact ⟨rfl,rfl⟩ | exact rfl
      ·obtain rfl:=Option.some.inj ho
       refine OpV.mono (R:=fun v w' => φNg (gp:=gp) (bm:=bm) x v0 i 2 v w' ∧ w' = W3) ?_ (fun v w' h => ⟨h.1,h.2 ▸ hJ.read (by decide) (fun e => absurd e (by decide)) (by decide) _,trivial⟩)
       have h0:=slotv (hkn 30 (by decide):a.tmps.getD 30 undef = .pointer (some ⟨gp,0,none⟩))
       clear hkn ho
       simp only [OpV,execOp]
       simp [go_sem,h0]
       all_goals first | exact ⟨rfl,rfl⟩ | exact rfl
      ·obtain rfl:=Option.some.inj ho
       refine OpV.mono (R:=fun v w' => φNg (gp:=gp) (bm:=bm) x v0 i 3 v w' ∧ w' = W3) ?_ (fun v w' h => ⟨h.1,h.2 ▸ hJ.read (by decide) (fun e => absurd e (by decide)) (by decide) _,trivial⟩)
       have h0:=slotv (hkn 31 (by decide):a.tmps.getD 31 undef = .pointer (some ⟨gp,5,none⟩))
       have hgk:=HGG.out _ _ _ hJ
       have p5:W3.cell? ⟨gp,5,none⟩ = some (.map (some bm)):=cell_h hgk 5 rfl
       clear hkn ho hgk
       simp only [OpV,execOp]
       simp [go_sem,h0,p5]
       all_goals first | exact ⟨rfl,rfl⟩ | exact rfl
      ·obtain rfl:=Option.some.inj ho
       refine OpV.mono (R:=fun v w' => φNg (gp:=gp) (bm:=bm) x v0 i 4 v w' ∧ w' = W3) ?_ (fun v w' h => ⟨h.1,h.2 ▸ hJ.read (by decide) (fun e => absurd e (by decide)) (by decide) _,trivial⟩)
       have h0:=slotv (hkn 9 (by decide):a.tmps.getD 9 undef = .pointer (some ⟨qx,0,none⟩))
       have hxk:=HXX.out _ _ _ hJ
       have z0:W3.cell? ⟨qx,0,none⟩ = some (.int .i64 x.kind):=cell_h hxk 0 rfl
       have z1:W3.cell? ⟨qx,1,none⟩ = some (.string x.text):=cell_h hxk 1 rfl
       clear hkn ho hxk
       simp only [OpV,execOp]
       simp [go_sem,h0,z0,z1]
       all_goals first | exact ⟨rfl,rfl⟩ | exact rfl
      ·obtain rfl:=Option.some.inj ho
       refine OpV.mono (R:=fun v w' => φNg (gp:=gp) (bm:=bm) x v0 i 5 v w' ∧ w' = W3) ?_ (fun v w' h => ⟨h.1,h.2 ▸ hJ.read (by decide) (fun e => absurd e (by decide)) (by decide) _,trivial⟩)
       exact ⟨hkn 6 (by decide),rfl⟩
      ·obtain rfl:=Option.some.inj ho
       have h0:=slotv (hkn 35 (by decide):a.tmps.getD 35 undef = .int .i64 (i:Int))
       refine OpV.mono (R:=fun v w' => v = .slice (some ⟨W3.heap.size,0,none⟩) 1 1 ∧ w' = W3.alloc (.cells #[.int .i64 (i:Int)] 3)) ?_ (fun v w' h => ⟨trivial,?_,trivial⟩)
       ·clear hkn ho
        simp only [OpV,execOp]
        simp [go_sem,h0]
        all_goals first | exact ⟨rfl,rfl⟩ | exact rfl
       ·rw [h.1,h.2]
        exact hJ.build (by rw [hsN];decide) HGB.out.2.2.2.1
      ·obtain rfl:=Option.some.inj ho
       have hnot:=ready_not hr (by show (7:Nat) < L.size;rw [hLs];decide)
       have h0:=slotv (hkn 32 (by decide):a.tmps.getD 32 undef = .map (some bm))
       have h1:=slotv (hkn 33 (by decide):a.tmps.getD 33 undef = .agg #[.int .i64 x.kind,.string x.text])
       obtain ⟨st,es1,c1,hrun,hst⟩:=HENT.out W3 (hJ.map0 hnot)
       refine OpV.mono (R:=fun v w' => v = .tuple #[v0,goInt st] ∧ w' = ChangeMaps.setBlock W3 bm (.map es1 c1)) ?_ (fun v w' h => ⟨⟨st,h.1⟩,?_,trivial⟩)
       ·clear hkn ho
        simp only [OpV,execOp]
        simp [go_sem,h0,h1,hrun]
        all_goals first | exact ⟨rfl,rfl⟩ | exact rfl
       ·rw [h.1,h.2]
        exact hJ.entry hnot (by show (7:Nat) < L.size;rw [hLs];decide) (by rw [hsN];decide) HGB.out.2.2.2.1 HVB.out hst
      ·obtain rfl:=Option.some.inj ho
       have h7:L.getD 7 false = true:=by
        obtain ⟨_,oi,hoi,hall⟩:=mem_ready.1 hr
        obtain rfl:=Option.some.inj hoi
        exact hall ⟨7,.data⟩ (by simp) rfl
       obtain ⟨st,h0⟩:=(hkn 37 (by decide):∃ st:Nat,a.tmps.getD 37 undef = .tuple #[v0,goInt st])
       have h0:=slotv h0
       refine OpV.mono (R:=fun v w' => v = v0 ∧ w' = W3) ?_ (fun v w' h => ⟨h.1,h.2 ▸ hJ.read (by decide) (fun _ => h7) (by decide) _,trivial⟩)
       clear hkn ho
       simp only [OpV,execOp]
       simp [go_sem,h0]
       all_goals first | exact ⟨rfl,rfl⟩ | exact rfl
      ·obtain rfl:=Option.some.inj ho
       have h8:L.getD 8 false = true:=by
        obtain ⟨_,oi,hoi,hall⟩:=mem_ready.1 hr
        obtain rfl:=Option.some.inj hoi
        exact hall ⟨8,.data⟩ (by simp) rfl
       have h6:L.getD 6 false = true:=by
        obtain ⟨_,oi,hoi,hall⟩:=mem_ready.1 hr
        obtain rfl:=Option.some.inj hoi
        exact hall ⟨6,.data⟩ (by simp) rfl
       have h0:=(hkn 34 (by decide):a.tmps.getD 34 undef = v0)
       exact OpV.mono (hJ.appV (hJ.dep.1 h8) h6 (ready_not hr (by show (9:Nat) < L.size;rw [hLs];decide)) (by show (9:Nat) < L.size;rw [hLs];decide) (by rw [hsN];decide) HGB.out.2.2.2.1 HVB.out HVL.out rfl rfl h0 i0 HI0.out hz0 hz1 hz2 (by have:=HPL.out;omega) HGB.out.2.2.1) (fun v w' h => ⟨trivial,h,trivial⟩)
      ·obtain rfl:=Option.some.inj ho
       have h7:L.getD 7 false = true:=by
        obtain ⟨_,oi,hoi,hall⟩:=mem_ready.1 hr
        obtain rfl:=Option.some.inj hoi
        exact hall ⟨7,.data⟩ (by simp) rfl
       obtain ⟨st,h0⟩:=(hkn 37 (by decide):∃ st:Nat,a.tmps.getD 37 undef = .tuple #[v0,goInt st])
       have h0':=slotv h0
       refine OpV.mono (R:=fun v w' => v = goInt st ∧ w' = W3) ?_ (fun v w' h => ⟨trivial,h.2 ▸ hJ.stamp h7 (by rw [hsN];decide) (fun st' e => ?_),trivial⟩)
       ·clear hkn ho
        simp only [OpV,execOp]
        simp [go_sem,h0']
        all_goals first | exact ⟨rfl,rfl⟩ | exact rfl
       ·rw [h.1]
        rw [h0] at e
        simp at e
        rw [e]
     ·intro yv W9 L9 hL9 hW9 hgt hφ
      obtain ⟨st,es1,c1,q1,q2,q3,q4⟩:=hW9.map1 (hL9 7 (by decide))
      obtain ⟨o1,o2⟩:=hW9.row1 (hL9 9 (by decide))
      have q4:=q4 (hL9 10 (by decide))
      rw [hgt 10 39 rfl] at q4
      rw [hgt 9 38 rfl] at o1 o2
      have hφ3:yv 3 = .map (some bm):=by
       rcases hφ 3 (by decide) with h | h
       ·exact h
       ·exact absurd h.1 (by decide)
      obtain ⟨W10,hrun,m1,m2,m3⟩:=q3 W9 (yv 9) q2
      have hrun':(Instr.entryStore 122 (.map (some bm)) (.int .i64 (st:Int)) (yv 9)).run Tryz.prog W9 = .ok () W10:=hrun
      have hst:yv 10 = .int .i64 (st:Int):=q4
      have hg9:∀ k,k < W2.heap.size → k ≠ bm → some k ≠ v0.ownBlock → W10.heap[k]? = W2.heap[k]?:=fun k k1 k2 k3 => (m2.block k (Nat.lt_of_lt_of_le k1 hW9.size) (fun c => by injection c with c;exact k2 c)).trans (hW9.keep k k1 k2 k3)
      have hj:=HPUT.out W10 (yv 9) (by rw [m3];exact hW9.size) (m2.os.trans hW9.os) (m2.tape.trans hW9.tape) (m2.output.trans hW9.output) hg9 m1 (ownsRow_heap o1 (fun g hg => m2.block g (o1.lt hg).2 (fun c => by
       injection c with c
       have h1:=HGB.out
       have h2:=(o1.lt hg).1
       have h3:=HNUM.out
       omega))) o2
      have JN:Hid (∃ n m,HavS w B bm (20 * i + (j + 1)) (posIJ ts d.ids i (j + 1)) n m W10):=⟨_,_,hj.congr (fun y => HSUC.out y) (by omega)⟩
      have GN:Hid (W10.heap[gp]? = some GO):=by
       have h1:=HGB.out
       refine (hg9 gp h1.2.2.2.2.1 h1.1 (fun c => ?_)).trans GC.out
       have:=HQV.out gp c.symm
       omega
      clear q1 q2 q3 q4 o1 o2 hrun m1 m2 m3 hg9 hj hW9 hL9 hgt hφ HPUT HENT HGG HXX HSUC HVL HVB HROW GC XC HIN HIN2
      simp only [List.drop_succ_cons,List.drop_zero,List.take_succ_cons,List.take_zero,putAll,Nat.reduceAdd,hφ3,hst]
      clear hφ3 hst
      generalize yv 9 = v9 at *
      generalize yv 0 = y0
      generalize yv 1 = y1
      generalize yv 2 = y2
      generalize yv 4 = y4
      generalize yv 5 = y5
      generalize yv 6 = y6
      generalize yv 7 = y7
      generalize yv 8 = y8
      have hids:=HTL.out.1
      go_wp2_with fail
      go_roundw
      case rel => exact ⟨j + 1,by omega,by go_num,JN,GN⟩
      case measure => simp [intOf];omega
    ·have hje:j = d.ids.length:=by omega
     subst hje
     have JE:Hid (∃ n m,HavS w B bm (20 * (i + 1)) (fun x => posN ts x (i + 1)) n m wr):=by
      obtain ⟨n,m,h⟩:=J.out
      exact ⟨n,m,h.congr (fun x => (HFULL.out x).symm) (by have:=HTL.out.1;omega)⟩
     clear J
     go_wp2_with fail
     go_roundw
     case rel => exact ⟨i + 1,by omega,by go_num,JE,G⟩
     case measure => simp [intOf];omega
  ·have hie:i = ts.length:=by omega
   subst hie
   have HF:Hid (NewGPost w r A cap ts (.returned (.pointer (some ⟨gp,0,none⟩))) wr):=by
    obtain ⟨n,m,h⟩:=J.out
    have h3:=HNUM.out
    refine ⟨gp,bm,n,m,rfl,?_,by rw [G.out,HGO.out],by omega⟩
    have:=h.congr (pos':=posL ts) (fun x => rfl) (Nat.le_refl _)
    rw [h3.2.2] at this
    exact this
   clear J G
   go_wp2_with fail
   go_ret
   exact HF.out
end Go.Proofs.YtcncifmanodabaaGreatDoor
