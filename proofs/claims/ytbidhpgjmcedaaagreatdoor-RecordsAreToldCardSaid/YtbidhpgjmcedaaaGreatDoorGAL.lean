/- Texts of this claim, put together: PartsP, Fam, NewGS. -/
import Derived.Test.YtbidhpgjmcedaaaGreatDoorGAK
import Derived.Test.YtbidhpgjmcedaaaGreatDoorGAB
import Derived.Test.YtbidhpgjmcedaaaGreatDoorGAJ
import Derived.Maps.RangeWalk
namespace Go.Proofs.YtbidhpgjmcedaaaGreatDoor
set_option linter.unusedVariables false
open Go.RowKit
theorem mem_posN {ts : List TchD} {x : IdD} {n : Nat} {z : Int} : z ∈ posN ts x n ↔ ∃ i : Nat,z = (i : Int) ∧ i < n ∧ ∃ h : i < ts.length,hasId ts[i].ids x = true:=by
 unfold posN
 simp only [List.mem_map,List.mem_filter,List.mem_range]
 constructor
 ·rintro ⟨i,⟨h1,h2⟩,rfl⟩
  cases e : ts[i]? with
  | none => rw [e] at h2; cases h2
  | some t =>
   obtain ⟨h3,h4⟩:=List.getElem?_eq_some_iff.1 e
   rw [e] at h2
   exact ⟨i,rfl,h1,h3,by rw [h4]; exact h2⟩
 ·rintro ⟨i,rfl,h1,h3,h4⟩
  exact ⟨i,⟨h1,by rw [List.getElem?_eq_getElem h3]; exact h4⟩,rfl⟩
theorem posN_succ (ts : List TchD) (x : IdD) {n : Nat} (h : n < ts.length) : posN ts x (n + 1) = posN ts x n ++ if hasId ts[n].ids x = true then [(n : Int)] else []:=by
 unfold posN
 rw [List.range_succ,List.filter_append,List.map_append]
 congr 1
 by_cases c : hasId ts[n].ids x = true
 ·rw [if_pos c,List.filter_cons_of_pos (by rw [List.getElem?_eq_getElem h]; exact c)]; rfl
 ·rw [if_neg c,List.filter_cons_of_neg (by rw [List.getElem?_eq_getElem h]; exact c)]; rfl
theorem posN_many (ts : List TchD) (x : IdD) : ∀ n,n ≤ ts.length → (posN ts x n).length = manyId (ts.take n) x
 | 0,_ => by simp [posN,manyId]
 | n + 1,h => by
  rw [posN_succ ts x (by omega),List.take_succ_eq_append_getElem (by omega),manyId_snoc,List.length_append,posN_many ts x n (by omega)]
  congr 1
  split <;> simp
theorem posL_many (ts : List TchD) (x : IdD) : (posL ts x).length = manyId ts x:=by
 unfold posL
 rw [posN_many ts x _ (Nat.le_refl _),List.take_length]
theorem mem_posL {ts : List TchD} {x : IdD} {i : Nat} : (i : Int) ∈ posL ts x ↔ ∃ h : i < ts.length,hasId ts[i].ids x = true:=by
 unfold posL
 rw [mem_posN]
 constructor
 ·rintro ⟨j,e,_,h⟩
  obtain rfl : i = j:=by omega
  exact h
 ·rintro ⟨h,c⟩
  exact ⟨i,rfl,h,h,c⟩
def Star (ps : List Int) (m : Nat) (i j : Nat) : Prop:=∃ k,1 ≤ k ∧ k < m ∧ ps[0]? = some (i : Int) ∧ ps[k]? = some (j : Int)
theorem Star.succ {ps : List Int} {m : Nat} {a b : Nat} (h1 : 1 ≤ m) (ha : ps[0]? = some (a : Int)) (hb : ps[m]? = some (b : Int)) (i j : Nat) : Star ps (m + 1) i j ↔ Star ps m i j ∨ (i = a ∧ j = b):=by
 constructor
 ·rintro ⟨k,k1,k2,e1,e2⟩
  by_cases c : k < m
  ·exact Or.inl ⟨k,k1,c,e1,e2⟩
  ·obtain rfl : k = m:=by omega
   rw [ha] at e1
   rw [hb] at e2
   injection e1 with e1
   injection e2 with e2
   exact Or.inr ⟨by omega,by omega⟩
 ·rintro (⟨k,k1,k2,e1,e2⟩ | ⟨rfl,rfl⟩)
  ·exact ⟨k,k1,by omega,e1,e2⟩
  ·exact ⟨m,h1,by omega,ha,hb⟩
theorem Star.one {ps : List Int} {m : Nat} (h : m ≤ 1) (i j : Nat) : ¬ Star ps m i j:=by
 rintro ⟨k,k1,k2,_⟩
 omega
theorem star_share {J : IdD → Bool} {ts : List TchD} {x : IdD} (hJ : J x = true) {m i j : Nat} (h : Star (posL ts x) m i j) : Share J ts i j:=by
 obtain ⟨k,_,_,e1,e2⟩:=h
 obtain ⟨h1,c1⟩:=mem_posL.1 (List.mem_of_getElem? e1)
 obtain ⟨h2,c2⟩:=mem_posL.1 (List.mem_of_getElem? e2)
 exact ⟨h1,h2,x,hJ,c1,c2⟩
theorem star_mem {ps : List Int} {a i : Nat} (ha : ps[0]? = some (a : Int)) (h : (i : Int) ∈ ps) : Tied (Star ps ps.length) a i:=by
 obtain ⟨k,hk,e⟩:=List.getElem_of_mem h
 by_cases c : k = 0
 ·subst c
  rw [List.getElem?_eq_getElem hk,e] at ha
  injection ha with ha
  obtain rfl : i = a:=by omega
  exact .refl _
 ·exact .edge ⟨k,by omega,hk,ha,by rw [List.getElem?_eq_getElem hk,e]⟩
theorem share_star {J : IdD → Bool} {ts : List TchD} {i j : Nat} (h : Share J ts i j) : ∃ x,J x = true ∧ (∃ (hi : i < ts.length),x ∈ ts[i].ids) ∧ Tied (Star (posL ts x) (posL ts x).length) i j:=by
 obtain ⟨hi,hj,x,hJ,c1,c2⟩:=h
 have m1 : (i : Int) ∈ posL ts x:=mem_posL.2 ⟨hi,c1⟩
 have m2 : (j : Int) ∈ posL ts x:=mem_posL.2 ⟨hj,c2⟩
 refine ⟨x,hJ,⟨hi,hasId_iff.1 c1⟩,?_⟩
 obtain ⟨a,ha⟩ : ∃ a : Nat,(posL ts x)[0]? = some (a : Int):=by
  have hl : 0 < (posL ts x).length:=List.length_pos_of_mem m1
  have h3:=List.getElem_mem hl
  obtain ⟨a,e,_⟩:=mem_posN.1 h3
  exact ⟨a,by rw [List.getElem?_eq_getElem hl,e]⟩
 exact .trans (.symm (star_mem ha m1)) (star_mem ha m2)
def DoneE (J : IdD → Bool) (ts : List TchD) (P : IdD → Prop) (i j : Nat) : Prop:=∃ x,P x ∧ J x = true ∧ Star (posL ts x) (posL ts x).length i j
theorem uf_all {J : IdD → Bool} {ts : List TchD} {P : IdD → Prop} {r : List Nat} (hP : ∀ x i (h : i < ts.length),x ∈ ts[i].ids → P x) (h : Uf (DoneE J ts P) r) : Uf (Share J ts) r:=by
 refine h.same (fun i j e => ?_) (fun i j e => ?_)
 ·obtain ⟨x,_,hJ,s⟩:=e
  exact .edge (star_share hJ s)
 ·obtain ⟨x,hJ,⟨hi,hx⟩,t⟩:=share_star e
  exact t.mono fun a b s => ⟨x,hP x i hi hx,hJ,s⟩
theorem Uf.iff_ {E E' : Nat → Nat → Prop} {r : List Nat} (h : Uf E r) (he : ∀ i j,E i j ↔ E' i j) : Uf E' r:=h.same (fun i j e => .edge ((he i j).1 e)) (fun i j e => .edge ((he i j).2 e))
open Go.RowKit
noncomputable def upd {ι α : Type} (f : ι → α) (i : ι) (x : α) : ι → α:=fun j => @ite α (j = i) (Classical.propDecidable _) x (f j)
theorem upd_self {ι α : Type} (f : ι → α) (i : ι) (x : α) : upd f i x i = x:=by unfold upd; rw [if_pos rfl]
theorem upd_ne {ι α : Type} (f : ι → α) {i j : ι} (x : α) (h : j ≠ i) : upd f i x j = f j:=by unfold upd; rw [if_neg h]
structure Fam {ι : Type} (W : World) (B : Nat) (S : ι → Prop) (T k : ι → Nat) (v : ι → Value) (n : ι → Nat) (cs : ι → List Value) : Prop where
 own : ∀ i,S i → W.ownsRow B (T i) (k i) (v i) (n i) (cs i)
 sep : ∀ i j,S i → S j → i ≠ j → (v i).ownBlock = none ∨ (v i).ownBlock ≠ (v j).ownBlock
section
variable {ι : Type} {W W' : World} {B : Nat} {S : ι → Prop} {T k : ι → Nat} {v : ι → Value} {n : ι → Nat} {cs : ι → List Value}
theorem Fam.kept (h : Fam W B S T k v n cs) {row : Option Nat} (hg : W.grownBy W' row) (hne : ∀ i,S i → (v i).ownBlock = none ∨ (v i).ownBlock ≠ row) : Fam W' B S T k v n cs :=
 ⟨fun i hi => (h.own i hi).kept hg (hne i hi),h.sep⟩
theorem Fam.below (h : Fam W B S T k v n cs) (hb : Below W.heap.size W W') : Fam W' B S T k v n cs :=
 h.kept (row:=none) ⟨hb.os,hb.tape,hb.output,hb.size,fun i hi _ => hb.block i hi⟩ (fun i _ => by cases e : (v i).ownBlock <;> simp)
theorem Fam.far (h : Fam W B S T k v n cs) {g : Nat} (hg : W.grownBy W' (some g)) (hne : g < B) : Fam W' B S T k v n cs :=
 h.kept hg fun i hi => by
  cases e : (v i).ownBlock with
  | none => exact Or.inl rfl
  | some q => right; intro c; injection c with c; have:=((h.own i hi).lt _ e).1; omega
theorem Fam.put (h : Fam W B S T k v n cs) {i : ι} (hi : S i) (hg : W.grownBy W' (v i).ownBlock) {v' : Value} {n' : Nat} {cs' : List Value} (ho : W'.ownsRow B (T i) (k i) v' n' cs')
  (hat : v'.ownBlock = (v i).ownBlock ∨ ∃ g,v'.ownBlock = some g ∧ W.heap.size ≤ g) : Fam W' B S T k (upd v i v') (upd n i n') (upd cs i cs'):=by
 refine ⟨fun j hj => ?_,fun j l hj hl hne => ?_⟩
 ·by_cases e : j = i
  ·subst e
   rw [upd_self,upd_self,upd_self]
   exact ho
  ·rw [upd_ne _ _ e,upd_ne _ _ e,upd_ne _ _ e]
   exact (h.own j hj).kept hg (h.sep j i hj hi e)
 ·by_cases e : j = i
  ·subst e
   rw [upd_self,upd_ne _ _ (fun c => hne c.symm)]
   rcases hat with hat | ⟨g,hat,hge⟩
   ·rw [hat]; exact h.sep j l hi hl hne
   ·right
    intro c
    rw [hat] at c
    have:=((h.own l hl).lt _ c.symm).2
    omega
  ·rw [upd_ne _ _ e]
   by_cases e2 : l = i
   ·subst e2
    rw [upd_self]
    rcases hat with hat | ⟨g,hat,hge⟩
    ·rw [hat]; exact h.sep j l hj hl hne
    ·cases e3 : (v j).ownBlock with
     | none => exact Or.inl rfl
     | some q =>
      right
      intro c
      rw [hat] at c
      injection c with c
      have:=((h.own j hj).lt _ e3).2
      omega
   ·rw [upd_ne _ _ e2]
    exact h.sep j l hj hl hne
theorem ownsRow_heap {W W' : World} {B T k n : Nat} {v : Value} {xs : List Value} (h : W.ownsRow B T k v n xs) (hk : ∀ g,v.ownBlock = some g → W'.heap[g]? = W.heap[g]?) : W'.ownsRow B T k v n xs:=by
 refine ⟨h.1,?_⟩
 rcases h.2 with h | ⟨g,cap,cur,hv,hB,hh,r⟩
 ·exact Or.inl h
 ·exact Or.inr ⟨g,cap,cur,hv,hB,(hk g (by rw [hv]; rfl)).trans hh,r⟩
theorem Fam.put2 (h : Fam W B S T k v n cs) {i : ι} (hi : S i) (hk : ∀ g,g < W.heap.size → B ≤ g → (v i).ownBlock ≠ some g → W'.heap[g]? = W.heap[g]?) {v' : Value} {n' : Nat} {cs' : List Value} (ho : W'.ownsRow B (T i) (k i) v' n' cs')
  (hat : v'.ownBlock = (v i).ownBlock ∨ ∃ g,v'.ownBlock = some g ∧ W.heap.size ≤ g) : Fam W' B S T k (upd v i v') (upd n i n') (upd cs i cs'):=by
 refine ⟨fun j hj => ?_,fun j l hj hl hne => ?_⟩
 ·by_cases e : j = i
  ·subst e
   rw [upd_self,upd_self,upd_self]
   exact ho
  ·rw [upd_ne _ _ e,upd_ne _ _ e,upd_ne _ _ e]
   refine ownsRow_heap (h.own j hj) fun g hg => ?_
   obtain ⟨h1,h2⟩:=(h.own j hj).lt _ hg
   refine hk g h2 h1 fun c => ?_
   rcases h.sep j i hj hi e with d | d
   ·rw [hg] at d; cases d
   ·exact d (hg.trans c.symm)
 ·by_cases e : j = i
  ·subst e
   rw [upd_self,upd_ne _ _ (fun c => hne c.symm)]
   rcases hat with hat | ⟨g,hat,hge⟩
   ·rw [hat]; exact h.sep j l hi hl hne
   ·right
    intro c
    rw [hat] at c
    have:=((h.own l hl).lt _ c.symm).2
    omega
  ·rw [upd_ne _ _ e]
   by_cases e2 : l = i
   ·subst e2
    rw [upd_self]
    rcases hat with hat | ⟨g,hat,hge⟩
    ·rw [hat]; exact h.sep j l hj hl hne
    ·cases e3 : (v j).ownBlock with
     | none => exact Or.inl rfl
     | some q =>
      right
      intro c
      rw [hat] at c
      injection c with c
      have:=((h.own j hj).lt _ e3).2
      omega
   ·rw [upd_ne _ _ e2]
    exact h.sep j l hj hl hne
theorem Fam.more (h : Fam W B S T k v n cs) (i : ι) (hv : v i = .slice none 0 0) (hn : n i = 0) (hc : cs i = []) : Fam W B (fun j => S j ∨ j = i) T k v n cs:=by
 refine ⟨fun j hj => ?_,fun j l hj hl hne => ?_⟩
 ·rcases hj with hj | rfl
  ·exact h.own j hj
  ·rw [hv,hn,hc]; exact World.ownsRow_nil _ _ _ _
 ·rcases hj with hj | rfl
  ·rcases hl with hl | rfl
   ·exact h.sep j l hj hl hne
   ·rw [hv]
    cases e : (v j).ownBlock with
    | none => exact Or.inl rfl
    | some q => right; simp [Value.ownBlock]
  ·left; rw [hv]; rfl
theorem Fam.congr (h : Fam W B S T k v n cs) {S' : ι → Prop} {v' : ι → Value} {n' : ι → Nat} {cs' : ι → List Value} (hS : ∀ i,S' i → S i) (hv : ∀ i,S' i → v' i = v i) (hn : ∀ i,S' i → n' i = n i) (hc : ∀ i,S' i → cs' i = cs i) : Fam W B S' T k v' n' cs' :=
 ⟨fun i hi => by rw [hv i hi,hn i hi,hc i hi]; exact h.own i (hS i hi),fun i j hi hj hne => by rw [hv i hi,hv j hj]; exact h.sep i j (hS i hi) (hS j hj) hne⟩
end
def Rg (P : Program) (k : TypeId) (w : World) (b r n : Nat) (m : Lit → Option Value) (left : Lit → Bool) (cnt : Nat) : Prop :=
 ∃ D : DataW Value,w.ranges P k heldR b r n D left cnt ∧ ∀ l,WideAt.IsKeyLit l → Maps.has D l = (m l).isSome ∧ ∀ v,m l = some v → ∀ z,D.atKey l z = .held v
section
variable {P : Program} {k e t : TypeId} {w w' : World} {b r n : Nat} {m : Lit → Option Value} {left : Lit → Bool} {cnt : Nat}
theorem Rg.mp (h : Rg P k w b r n m left cnt) : Mp P k w b n m:=by
 obtain ⟨D,h1,h2⟩:=h
 exact ⟨D,h1.owns,h2⟩
theorem Rg.left_eq (h : Rg P k w b r n m left cnt) : w.rangeLeft b r = cnt:=by
 obtain ⟨D,h1,h2⟩:=h
 exact h1.left_eq
theorem Rg.ne (h : Rg P k w b r n m left cnt) : r ≠ b:=by
 obtain ⟨D,h1,h2⟩:=h
 exact h1.ne
theorem Rg.lt (h : Rg P k w b r n m left cnt) : r < w.heap.size:=by
 obtain ⟨D,h1,h2⟩:=h
 exact h1.lt
theorem Rg.kept {row : Option Nat} (h : Rg P k w b r n m left cnt) (hg : w.grownBy w' row) (hb : some b ≠ row) (hr : some r ≠ row) : Rg P k w' b r n m left cnt:=by
 obtain ⟨D,h1,h2⟩:=h
 exact ⟨D,h1.kept hg hb hr,h2⟩
theorem Rg.below (h : Rg P k w b r n m left cnt) (hb : Below w.heap.size w w') : Rg P k w' b r n m left cnt :=
 h.kept (row:=none) ⟨hb.os,hb.tape,hb.output,hb.size,fun i hi _ => hb.block i hi⟩ (by simp) (by simp)
end
section
variable {P : Program} (w : World) {ops : Array Oper} {rest : List Oper} {o : Oper} {a : Act} {Q : Exit → Act → World → Prop}
theorem wpList_range_mp (hg : o.guard = none) (mo : Operand) (t : TypeId) (hop : o.op = Op.range t mo) (k e : TypeId) (K : Maps.Keyed P k) (ht : P.underlying t = some (.map k e)) (b n : Nat) (m : Lit → Option Value)
  (hm : a.eval mo = .map (some b)) (hown : Mp P k w b n m)
  (hK : ∀ w' left cnt,(∀ l,WideAt.IsKeyLit l → left l = (m l).isSome) → Rg P k w' b w.heap.size n m left cnt → w.grownBy w' none → w'.heap.size = w.heap.size + 1 → wpList P ops Q rest (a.put o.dst (.pointer (some ⟨w.heap.size,0,none⟩))) w') :
  wpList P ops Q (o :: rest) a w:=by
 obtain ⟨D,h1,h2⟩:=hown
 refine wpList_range_own w hg mo t hop k e K ht heldR b n D hm h1 ?_
 intro w' r1 r2 r3
 exact hK w' _ _ (fun l hl => (h2 l hl).1) ⟨D,r1,h2⟩ r2 r3
theorem wpList_next_mp {α : Type} (hg : o.guard = none) (it : Operand) (hop : o.op = Op.next it false) (k : TypeId) (K : Maps.Keyed P k) (mkK : α → Value) (b r n : Nat) (m : Lit → Option Value) (left : Lit → Bool) (cnt : Nat)
  (hit : a.eval it = .pointer (some ⟨r,0,none⟩)) (h : Rg P k w b r n m left cnt) (hmk : ∀ l,left l = true → WideAt.IsKeyLit l → ∃ x,keyOf P k (mkK x) = some l)
  (hDone : cnt = 0 → (∀ kl,left kl = false) → wpList P ops Q rest (a.put o.dst (.tuple #[.bool false])) w)
  (hMore : ∀ (x : α) (c : Value) (kl : Lit) (w' : World) (cnt' : Nat),keyOf P k (mkK x) = some kl → left kl = true → m kl = some c → Rg P k w' b r n m (fun z => left z && !z.sameKey kl) cnt' → cnt' < cnt →
   w.grownBy w' (some r) → w'.heap.size = w.heap.size → (Instr.entry (.pointer (some ⟨r,0,none⟩))).run P w' = .ok (.tuple #[mkK x,c]) w' → wpList P ops Q rest (a.put o.dst (.tuple #[.bool true,mkK x,c])) w') :
  wpList P ops Q (o :: rest) a w:=by
 obtain ⟨D,h1,h2⟩:=h
 refine wpList_plain hg fun K' hK' => ?_
 unfold Oper.wp
 rcases h1.next K o.type with ⟨h0,hl,hrun⟩ | ⟨key,v,kl,y,w',cnt',hkey,hlk,hv,hat,hrun,hrg,hlt,hgr,hsz,hen⟩
 ·simp [execOp,hop,hit,hrun,Result.andThen]
  exact hK' _ _ (hDone h0 hl)
 ·have hkl : WideAt.IsKeyLit kl:=K.key hkey
  obtain ⟨x,hx⟩:=hmk kl hlk hkl
  obtain rfl:=K.inj hkey hx
  obtain ⟨e1,e2⟩:=h2 kl hkl
  have hy : y = (.held v,[]):=by unfold heldR at hv; injection hv with hv; exact hv.symm
  have hmv : m kl = some v:=by
   cases hm : m kl with
   | none =>
    rw [hm] at e1
    have:=Maps.has_true_of_atKey hat
    rw [this] at e1
    cases e1
   | some u =>
    have h3:=e2 u hm (.held u)
    rw [hat,hy] at h3
    injection h3 with h3
    rw [h3]
  simp [execOp,hop,hit,hrun,Result.andThen]
  exact hK' _ _ (hMore x v kl w' cnt' hx hlk hmv ⟨D,hrg,h2⟩ hlt hgr hsz hen)
end
open Go.RowKit
def nilV : Value:=.slice none 0 0
structure HavS (w : World) (B bm N : Nat) (pos : IdD → List Int) (n : Nat) (m : Lit → Option Value) (W : World) : Prop where
 bel : Below w.heap.size w W
 map : Mp Tryz.prog 55 W bm n m
 le : n ≤ N
 keys : ∀ l,(m l).isSome = true → ∃ x,FitId x ∧ l = klId x ∧ pos x ≠ []
 vals : ∀ x,FitId x → pos x ≠ [] → (m (klId x)).isSome = true
 fam : Fam W B FitId (fun _ => 3) (fun _ => 1) (fun x => (m (klId x)).getD nilV) (fun x => (pos x).length) (fun x => cellsOf 1 fI (pos x))
 ge : w.heap.size ≤ bm
 lt : bm < B
section
variable {w W W' : World} {B bm N n : Nat} {pos : IdD → List Int} {m : Lit → Option Value}
theorem HavS.call (h : HavS w B bm N pos n m W) (hb : Below W.heap.size W W') : HavS w B bm N pos n m W' :=
 ⟨h.bel.trans (hb.mono h.bel.size),h.map.below hb,h.le,h.keys,h.vals,h.fam.below hb,h.ge,h.lt⟩
theorem HavS.row (h : HavS w B bm N pos n m W) {x : IdD} (hx : FitId x) : Orow W B 3 1 fI ((m (klId x)).getD nilV) (pos x):=h.fam.own x hx
theorem HavS.row_ne (h : HavS w B bm N pos n m W) {x : IdD} (hx : FitId x) : ((m (klId x)).getD nilV).ownBlock ≠ some bm:=by
 intro c
 have:=((h.row hx).lt c).1
 have:=h.lt
 omega
theorem HavS.start (hb : Below w.heap.size w W) (hm : Mp Tryz.prog 55 W bm 0 mpNew) (hg : w.heap.size ≤ bm) (hl : bm < B) : HavS w B bm 0 (fun _ => []) 0 mpNew W :=
 ⟨hb,hm,Nat.le_refl _,fun l hl => (by cases hl),fun x _ h => absurd rfl h,⟨fun x _ => World.ownsRow_nil _ _ _ _,fun x y _ _ _ => Or.inl rfl⟩,hg,hl⟩
theorem HavS.congr (h : HavS w B bm N pos n m W) {pos' : IdD → List Int} {N' : Nat} (e : ∀ x,pos' x = pos x) (hN : N ≤ N') : HavS w B bm N' pos' n m W:=by
 have : pos' = pos:=funext e
 subst this
 exact ⟨h.bel,h.map,Nat.le_trans h.le hN,h.keys,h.vals,h.fam,h.ge,h.lt⟩
theorem HavS.put (h : HavS w B bm N pos n m W) {x : IdD} (hx : FitId x) {v' : Value} {i : Int} (hsz : W.heap.size ≤ W'.heap.size) (hos : W'.os = W.os) (htp : W'.tape = W.tape) (hop : W'.output = W.output)
  (hk : ∀ k,k < W.heap.size → k ≠ bm → some k ≠ ((m (klId x)).getD nilV).ownBlock → W'.heap[k]? = W.heap[k]?) (hm : Mp Tryz.prog 55 W' bm (n + 1) (mpSet m (klId x) v'))
  (ho : Orow W' B 3 1 fI v' (pos x ++ [i])) (hat : v'.ownBlock = ((m (klId x)).getD nilV).ownBlock ∨ ∃ g,v'.ownBlock = some g ∧ W.heap.size ≤ g) :
  HavS w B bm (N + 1) (fun y => if eqId y x = true then pos x ++ [i] else pos y) (n + 1) (mpSet m (klId x) v') W':=by
 have hge:=h.ge
 have hlt:=h.lt
 have hset : ∀ y,FitId y → mpSet m (klId x) v' (klId y) = if eqId y x = true then some v' else m (klId y):=by
  intro y hy
  unfold mpSet
  by_cases e : eqId y x = true
  ·rw [if_pos e,eqId_iff.1 e,WideAt.sameKey_self (idKeyed.key (keyId hx))]
   rfl
  ·rw [if_neg e,if_neg]
   intro c
   exact e (by rw [klId_inj hy hx (WideAt.sameKey_eq c)]; exact eqId_self x)
 refine ⟨⟨hos.trans h.bel.os,htp.trans h.bel.tape,hop.trans h.bel.output,Nat.le_trans h.bel.size hsz,fun k hk' => ?_⟩,hm,Nat.succ_le_succ h.le,fun l hl => ?_,fun y hy hp => ?_,?_,h.ge,h.lt⟩
 ·refine (hk k (Nat.lt_of_lt_of_le hk' h.bel.size) (by omega) (fun c => ?_)).trans (h.bel.block k hk')
  have:=((h.row hx).lt c.symm).1
  omega
 ·unfold mpSet at hl
  by_cases e : l.sameKey (klId x) = true
  ·refine ⟨x,hx,WideAt.sameKey_eq e,?_⟩
   rw [if_pos (eqId_self x)]
   simp
  ·rw [if_neg e] at hl
   obtain ⟨y,hy,rfl,hp⟩:=h.keys l hl
   refine ⟨y,hy,rfl,?_⟩
   split
   ·simp
   ·exact hp
 ·rw [hset y hy]
  split
  ·rfl
  ·rename_i e
   rw [if_neg e] at hp
   exact h.vals y hy hp
 ·have hf:=h.fam.put2 (i:=x) hx (W':=W') (v':=v') (n':=(pos x ++ [i]).length) (cs':=cellsOf 1 fI (pos x ++ [i])) (fun g h1 h2 h3 => hk g h1 (by omega) (fun c => h3 c.symm)) ho hat
  refine hf.congr (fun _ h => h) (fun y hy => ?_) (fun y hy => ?_) (fun y hy => ?_)
  ·rw [hset y hy]
   by_cases e : y = x
   ·subst e
    rw [if_pos (eqId_self y),upd_self]
    rfl
   ·rw [if_neg (fun c => e (eqId_iff.1 c)),upd_ne _ _ e]
  ·by_cases e : y = x
   ·subst e
    rw [if_pos (eqId_self y),upd_self]
   ·rw [if_neg (fun c => e (eqId_iff.1 c)),upd_ne _ _ e]
  ·by_cases e : y = x
   ·subst e
    rw [if_pos (eqId_self y),upd_self]
   ·rw [if_neg (fun c => e (eqId_iff.1 c)),upd_ne _ _ e]
end
def posIJ (ts : List TchD) (ids : List IdD) (i j : Nat) (x : IdD) : List Int:=posN ts x i ++ if hasId (ids.take j) x = true then [(i : Int)] else []
theorem posN_le (ts : List TchD) (x : IdD) (n : Nat) : (posN ts x n).length ≤ n:=by
 unfold posN
 rw [List.length_map]
 exact Nat.le_trans (List.length_filter_le _ _) (by rw [List.length_range]; exact Nat.le_refl _)
theorem posIJ_le (ts : List TchD) (ids : List IdD) (i j : Nat) (x : IdD) : (posIJ ts ids i j x).length ≤ i + 1:=by
 unfold posIJ
 rw [List.length_append]
 have:=posN_le ts x i
 split <;> simp <;> omega
theorem posIJ_zero (ts : List TchD) (ids : List IdD) (i : Nat) (x : IdD) : posIJ ts ids i 0 x = posN ts x i:=by
 unfold posIJ
 simp [hasId]
theorem posIJ_full (ts : List TchD) {i : Nat} (h : i < ts.length) (x : IdD) : posIJ ts ts[i].ids i ts[i].ids.length x = posN ts x (i + 1):=by
 unfold posIJ
 rw [List.take_length,posN_succ ts x h]
theorem posIJ_succ (ts : List TchD) {ids : List IdD} (hn : ids.Pairwise (· ≠ ·)) (i : Nat) {j : Nat} (h : j < ids.length) (y : IdD) : posIJ ts ids i (j + 1) y = if eqId y ids[j] = true then posIJ ts ids i j ids[j] ++ [(i : Int)] else posIJ ts ids i j y:=by
 have hx : hasId (ids.take j) ids[j] = false:=by
  cases e : hasId (ids.take j) ids[j] with
  | false => rfl
  | true =>
   obtain ⟨k,hk,ek⟩:=List.getElem_of_mem (hasId_iff.1 e)
   rw [List.length_take] at hk
   rw [List.getElem_take] at ek
   exact absurd ek (List.pairwise_iff_getElem.1 hn k j (by omega) h (by omega))
 unfold posIJ
 by_cases e : eqId y ids[j] = true
 ·obtain rfl:=eqId_iff.1 e
  have hy : hasId (ids.take (j + 1)) ids[j] = true:=by
   rw [hasId_iff,List.take_succ_eq_append_getElem h]
   exact List.mem_append_right _ (List.mem_singleton.2 rfl)
  rw [if_pos hy,if_pos e,hx]
  simp
 ·rw [if_neg e]
  congr 1
  have : hasId (ids.take (j + 1)) y = hasId (ids.take j) y:=by
   unfold hasId
   rw [List.take_succ_eq_append_getElem h,List.any_append]
   simp
   intro c
   exact absurd c e
  rw [this]
end Go.Proofs.YtbidhpgjmcedaaaGreatDoor
