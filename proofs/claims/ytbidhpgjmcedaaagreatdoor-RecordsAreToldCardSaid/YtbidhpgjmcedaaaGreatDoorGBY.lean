/- Texts of this claim, put together: TellP, StrMp, TelS, SortFd, RecS, KeyVal, RecP, CloneTd. -/
import Derived.Test.YtbidhpgjmcedaaaGreatDoorGAU
import Derived.Test.YtbidhpgjmcedaaaGreatDoorGAD
import Derived.Lib.RuneCount
import Derived.Test.YtbidhpgjmcedaaaGreatDoorGAC
import Derived.Test.YtbidhpgjmcedaaaGreatDoorGAJ
import Derived.StringKeys
import Derived.Test.YtbidhpgjmcedaaaGreatDoorGAL
import Derived.Test.YtbidhpgjmcedaaaGreatDoorGAS
import Derived.Test.YtbidhpgjmcedaaaGreatDoorLaySortFd
import Derived.Test.YtbidhpgjmcedaaaGreatDoorGAG
import Derived.Test.YtbidhpgjmcedaaaGreatDoorGAN
import Derived.Test.YtbidhpgjmcedaaaGreatDoorGAE
import Derived.DeepKeys4
import Derived.Test.YtbidhpgjmcedaaaGreatDoorGBL
import Derived.Test.YtbidhpgjmcedaaaGreatDoorGAH
import Derived.StillTailTactics
import Derived.Deep.Cut
namespace Go.Proofs.YtbidhpgjmcedaaaGreatDoor
set_option linter.unusedVariables false
open Go.RowKit
structure TdD where
 no : Int
 at_ : Int
 source : ByteArray
 ia : Option Addr
 il : Nat
 ic : Nat
 fa : Option Addr
 fl : Nat
 fc : Nat
 kind : Int
 text : ByteArray
 num : Int
def mkTd (t : TchD) (v : VD) : TdD:=⟨t.no,t.at_,t.source,t.ia,t.ids.length,t.ic,t.fa,t.fields.length,t.fc,v.kind,v.text,v.num⟩
def TdD.v (d : TdD) : VD:=⟨d.kind,d.text,d.num⟩
def fTd (d : TdD) : Nat → Value
 | 0 => .int .i64 d.no
 | 1 => .int .i64 d.at_
 | 2 => .string d.source
 | 3 => .slice d.ia d.il d.ic
 | 4 => .slice d.fa d.fl d.fc
 | 5 => .int .i64 d.kind
 | 6 => .string d.text
 | _ => .int .i64 d.num
def tdV (d : TdD) : Value:=.agg #[.int .i64 d.no,.int .i64 d.at_,.string d.source,.slice d.ia d.il d.ic,.slice d.fa d.fl d.fc,.int .i64 d.kind,.string d.text,.int .i64 d.num]
def td0 : TdD:=⟨0,0,⟨#[]⟩,none,0,0,none,0,0,0,⟨#[]⟩,0⟩
instance : Inhabited TdD:=⟨td0⟩
def laterC (a b : TdD) : Int:=orL [cmpI a.at_ b.at_,cmpI a.no b.no]
def cmpBy (mes : TdD → Int) (a b : TdD) : Int:=orL [cmpI (mes a) (mes b),laterC a b]
def maxF (c : TdD → TdD → Int) : TdD → List TdD → TdD
 | m,[] => m
 | m,x :: l => maxF c (if 0 < c x m then x else m) l
def minF (c : TdD → TdD → Int) : TdD → List TdD → TdD
 | m,[] => m
 | m,x :: l => minF c (if c x m < 0 then x else m) l
def maxL (c : TdD → TdD → Int) : List TdD → TdD
 | [] => td0
 | x :: l => maxF c x l
def minL (c : TdD → TdD → Int) : List TdD → TdD
 | [] => td0
 | x :: l => minF c x l
theorem maxF_mem (c : TdD → TdD → Int) : ∀ (l : List TdD) (m : TdD),maxF c m l = m ∨ maxF c m l ∈ l
 | [],m => Or.inl rfl
 | x :: l,m => by
  unfold maxF
  by_cases h : 0 < c x m
  ·rw [if_pos h]
   rcases maxF_mem c l x with e | e
   ·rw [e]; exact Or.inr List.mem_cons_self
   ·exact Or.inr (List.mem_cons_of_mem _ e)
  ·rw [if_neg h]
   rcases maxF_mem c l m with e | e
   ·exact Or.inl e
   ·exact Or.inr (List.mem_cons_of_mem _ e)
theorem minF_mem (c : TdD → TdD → Int) : ∀ (l : List TdD) (m : TdD),minF c m l = m ∨ minF c m l ∈ l
 | [],m => Or.inl rfl
 | x :: l,m => by
  unfold minF
  by_cases h : c x m < 0
  ·rw [if_pos h]
   rcases minF_mem c l x with e | e
   ·rw [e]; exact Or.inr List.mem_cons_self
   ·exact Or.inr (List.mem_cons_of_mem _ e)
  ·rw [if_neg h]
   rcases minF_mem c l m with e | e
   ·exact Or.inl e
   ·exact Or.inr (List.mem_cons_of_mem _ e)
theorem maxL_mem (c : TdD → TdD → Int) {l : List TdD} (h : l ≠ []) : maxL c l ∈ l:=by
 match l,h with
 | x :: l,_ =>
  show maxF c x l ∈ _
  rcases maxF_mem c l x with e | e
  ·rw [e]; exact List.mem_cons_self
  ·exact List.mem_cons_of_mem _ e
theorem minL_mem (c : TdD → TdD → Int) {l : List TdD} (h : l ≠ []) : minL c l ∈ l:=by
 match l,h with
 | x :: l,_ =>
  show minF c x l ∈ _
  rcases minF_mem c l x with e | e
  ·rw [e]; exact List.mem_cons_self
  ·exact List.mem_cons_of_mem _ e
theorem maxF_snoc (c : TdD → TdD → Int) : ∀ (l : List TdD) (m x : TdD),maxF c m (l ++ [x]) = if 0 < c x (maxF c m l) then x else maxF c m l
 | [],m,x => rfl
 | y :: l,m,x => by
  simp only [List.cons_append,maxF]
  exact maxF_snoc c l _ x
theorem minF_snoc (c : TdD → TdD → Int) : ∀ (l : List TdD) (m x : TdD),minF c m (l ++ [x]) = if c x (minF c m l) < 0 then x else minF c m l
 | [],m,x => rfl
 | y :: l,m,x => by
  simp only [List.cons_append,minF]
  exact minF_snoc c l _ x
def maxT (c : TdD → TdD → Int) (l : List TdD) (i : Nat) : TdD:=maxL c (l.take i)
def minT (c : TdD → TdD → Int) (l : List TdD) (i : Nat) : TdD:=minL c (l.take i)
theorem maxT_succ (c : TdD → TdD → Int) {l : List TdD} {i : Nat} (h : i < l.length) (h0 : 0 < i) : maxT c l (i + 1) = if 0 < c l[i] (maxT c l i) then l[i] else maxT c l i:=by
 unfold maxT
 rw [List.take_succ_eq_append_getElem h]
 match l,i,h,h0 with
 | x :: l,i + 1,h,_ =>
  simp only [List.take_succ_cons,List.cons_append,maxL,List.getElem_cons_succ]
  exact maxF_snoc c _ _ _
theorem minT_succ (c : TdD → TdD → Int) {l : List TdD} {i : Nat} (h : i < l.length) (h0 : 0 < i) : minT c l (i + 1) = if c l[i] (minT c l i) < 0 then l[i] else minT c l i:=by
 unfold minT
 rw [List.take_succ_eq_append_getElem h]
 match l,i,h,h0 with
 | x :: l,i + 1,h,_ =>
  simp only [List.take_succ_cons,List.cons_append,minL,List.getElem_cons_succ]
  exact minF_snoc c _ _ _
theorem maxT_one (c : TdD → TdD → Int) {l : List TdD} (h : 0 < l.length) : maxT c l 1 = l[0]:=by
 match l,h with
 | x :: l,_ => simp [maxT,maxL,maxF]
theorem minT_one (c : TdD → TdD → Int) {l : List TdD} (h : 0 < l.length) : minT c l 1 = l[0]:=by
 match l,h with
 | x :: l,_ => simp [minT,minL,minF]
theorem maxT_all (c : TdD → TdD → Int) (l : List TdD) : maxT c l l.length = maxL c l:=by unfold maxT; rw [List.take_length]
theorem minT_all (c : TdD → TdD → Int) (l : List TdD) : minT c l l.length = minL c l:=by unfold minT; rw [List.take_length]
def mLong (d : TdD) : Int:=(Lib.runeCount d.text : Int)
def mOften (l : List TdD) (d : TdD) : Int:=((l.filter fun x => sameV x.v d.v).length : Int)
def mSrc (srcs : List ByteArray) (d : TdD) : Int:=match srcs.findIdx? (fun s => eqS d.source s) with
 | some i => -(i : Int)
 | none => -(srcs.length : Int)
def textT (d : TdD) : Bool:=decide (d.kind = 1)
def surT (how : Int) (srcs : List ByteArray) (l : List TdD) : TdD :=
 if how = 2 then minL laterC l
 else if how = 3 then maxL (cmpBy mLong) l
 else if how = 4 then maxL (cmpBy (mOften l)) l
 else if how = 5 then maxL (cmpBy (mSrc srcs)) l
 else if how = 6 ∨ how = 7 then
  if l.any (fun d => !textT d) = true then maxL (cmpBy fun d => (if how = 7 then -1 else 1) * d.num) (l.filter fun d => !textT d)
  else maxL laterC l
 else maxL laterC l
theorem surT_mem (how : Int) (srcs : List ByteArray) {l : List TdD} (h : l ≠ []) : surT how srcs l ∈ l:=by
 unfold surT
 split
 ·exact minL_mem _ h
 ·split
  ·exact maxL_mem _ h
  ·split
   ·exact maxL_mem _ h
   ·split
    ·exact maxL_mem _ h
    ·split
     ·split
      ·rename_i _ _ _ _ _ h6
       obtain ⟨x,hx,hp⟩:=List.any_eq_true.1 h6
       have : (l.filter fun d => !textT d) ≠ []:=by
        intro c
        have : x ∈ l.filter fun d => !textT d:=List.mem_filter.2 ⟨hx,hp⟩
        rw [c] at this
        cases this
       exact (List.mem_filter.1 (maxL_mem _ this)).1
      ·exact maxL_mem _ h
     ·exact maxL_mem _ h
def surOf (surs : List SurD) (name : ByteArray) : Option SurD:=surs.find? fun s => s.name.toList == name.toList
def survT (surs : List SurD) (name : ByteArray) (l : List TdD) : TdD:=match surOf surs name with
 | some s => surT s.how s.srcs l
 | none => surT 1 [] l
theorem survT_mem (surs : List SurD) (name : ByteArray) {l : List TdD} (h : l ≠ []) : survT surs name l ∈ l:=by
 unfold survT
 split
 ·exact surT_mem _ _ h
 ·exact surT_mem _ _ h
def tellT (t : TchD) : List (ByteArray × TdD):=t.fields.map fun f => (f.name,mkTd t f.v)
def tellA (ts : List TchD) (qs : List Nat) : List (ByteArray × TdD):=qs.flatMap fun q => tellT (tAt ts q)
def telN (ps : List (ByteArray × TdD)) (name : ByteArray) : List TdD:=(ps.filter fun p => eqS p.1 name).map (·.2)
open Go.RowKit
def codeLit (s : ByteArray) : Lit:=.string s.data.toList
theorem bytes_ext' {a b : ByteArray} (h : a.data.toList = b.data.toList) : a = b:=by
 cases a; cases b
 simp only [Array.toList_inj] at h
 rw [h]
theorem sameKey_code (a b : ByteArray) : (codeLit a).sameKey (codeLit b) = (b.toList == a.toList):=by
 unfold codeLit Lit.sameKey
 rw [Bool.eq_iff_iff]
 simp only [beq_iff_eq]
 constructor
 ·intro h; rw [show a = b from bytes_ext' h]
 ·intro h
  rw [ByteArray.toList_eq,ByteArray.toList_eq] at h
  exact h.symm
theorem strKeyed : Maps.Keyed Tryz.prog 9:=Maps.string_keyed Tryz.underlying9
theorem strKey {s : ByteArray} (h : s.size ≤ 1000000000) : keyOf Tryz.prog 9 (.string s) = some (codeLit s):=Go.WideMaps.keyOf_string_mk Tryz.underlying9 (by unfold maxLen; omega)
open Go.RowKit
def FitN (s : ByteArray) : Prop:=s.size ≤ 1000000000
theorem codeLit_inj {a b : ByteArray} (h : codeLit a = codeLit b) : a = b:=by
 unfold codeLit at h
 injection h with h
 exact bytes_ext' h
theorem codeLit_self (a : ByteArray) : (codeLit a).sameKey (codeLit a) = true:=by rw [sameKey_code]; exact beq_self_eq_true _
theorem telN_snoc (ps : List (ByteArray × TdD)) (x : ByteArray) (d : TdD) (y : ByteArray) : telN (ps ++ [(x,d)]) y = if y = x then telN ps x ++ [d] else telN ps y:=by
 unfold telN
 rw [List.filter_append,List.map_append]
 by_cases e : y = x
 ·subst e
  rw [if_pos rfl]
  simp [eqS_self]
 ·have : eqS x y = false:=Bool.eq_false_iff.2 fun c => e (eqS_iff.1 c).symm
  rw [if_neg e]
  simp [this]
theorem telN_len (ps : List (ByteArray × TdD)) (y : ByteArray) : (telN ps y).length ≤ ps.length:=by
 unfold telN
 rw [List.length_map]
 exact List.length_filter_le _ _
structure HavT (w : World) (B bm : Nat) (ps : List (ByteArray × TdD)) (n : Nat) (m : Lit → Option Value) (W : World) : Prop where
 bel : Below w.heap.size w W
 map : Mp Tryz.prog 9 W bm n m
 le : n ≤ ps.length
 keys : ∀ l,(m l).isSome = true → ∃ x,FitN x ∧ l = codeLit x ∧ telN ps x ≠ []
 vals : ∀ x,FitN x → telN ps x ≠ [] → (m (codeLit x)).isSome = true
 fam : Fam W B FitN (fun _ => 167) (fun _ => 8) (fun x => (m (codeLit x)).getD nilV) (fun x => (telN ps x).length) (fun x => cellsOf 8 fTd (telN ps x))
 ge : w.heap.size ≤ bm
 lt : bm < B
section
variable {w W W' : World} {B bm n : Nat} {ps : List (ByteArray × TdD)} {m : Lit → Option Value}
theorem HavT.call (h : HavT w B bm ps n m W) (hb : Below W.heap.size W W') : HavT w B bm ps n m W' :=
 ⟨h.bel.trans (hb.mono h.bel.size),h.map.below hb,h.le,h.keys,h.vals,h.fam.below hb,h.ge,h.lt⟩
theorem HavT.row (h : HavT w B bm ps n m W) {x : ByteArray} (hx : FitN x) : Orow W B 167 8 fTd ((m (codeLit x)).getD nilV) (telN ps x):=h.fam.own x hx
theorem HavT.row_ne (h : HavT w B bm ps n m W) {x : ByteArray} (hx : FitN x) : ((m (codeLit x)).getD nilV).ownBlock ≠ some bm:=by
 intro c
 have:=((h.row hx).lt c).1
 have:=h.lt
 omega
theorem HavT.start (hb : Below w.heap.size w W) (hm : Mp Tryz.prog 9 W bm 0 mpNew) (hg : w.heap.size ≤ bm) (hl : bm < B) : HavT w B bm [] 0 mpNew W :=
 ⟨hb,hm,Nat.le_refl _,fun l hl => (by cases hl),fun x _ h => absurd rfl h,⟨fun x _ => World.ownsRow_nil _ _ _ _,fun x y _ _ _ => Or.inl rfl⟩,hg,hl⟩
theorem HavT.put (h : HavT w B bm ps n m W) {x : ByteArray} (hx : FitN x) {v' : Value} {d : TdD} (hsz : W.heap.size ≤ W'.heap.size) (hos : W'.os = W.os) (htp : W'.tape = W.tape) (hop : W'.output = W.output)
  (hk : ∀ k,k < W.heap.size → k ≠ bm → some k ≠ ((m (codeLit x)).getD nilV).ownBlock → W'.heap[k]? = W.heap[k]?) (hm : Mp Tryz.prog 9 W' bm (n + 1) (mpSet m (codeLit x) v'))
  (ho : Orow W' B 167 8 fTd v' (telN ps x ++ [d])) (hat : v'.ownBlock = ((m (codeLit x)).getD nilV).ownBlock ∨ ∃ g,v'.ownBlock = some g ∧ W.heap.size ≤ g) :
  HavT w B bm (ps ++ [(x,d)]) (n + 1) (mpSet m (codeLit x) v') W':=by
 have hge:=h.ge
 have hlt:=h.lt
 have hset : ∀ y,FitN y → mpSet m (codeLit x) v' (codeLit y) = if y = x then some v' else m (codeLit y):=by
  intro y hy
  unfold mpSet
  by_cases e : y = x
  ·rw [if_pos e,e,codeLit_self]
   rfl
  ·rw [if_neg e,if_neg]
   intro c
   exact e (codeLit_inj (WideAt.sameKey_eq c))
 refine ⟨⟨hos.trans h.bel.os,htp.trans h.bel.tape,hop.trans h.bel.output,Nat.le_trans h.bel.size hsz,fun k hk' => ?_⟩,hm,by rw [List.length_append]; exact Nat.succ_le_succ h.le,fun l hl => ?_,fun y hy hp => ?_,?_,h.ge,h.lt⟩
 ·refine (hk k (Nat.lt_of_lt_of_le hk' h.bel.size) (by omega) (fun c => ?_)).trans (h.bel.block k hk')
  have:=((h.row hx).lt c.symm).1
  omega
 ·unfold mpSet at hl
  by_cases e : l.sameKey (codeLit x) = true
  ·refine ⟨x,hx,WideAt.sameKey_eq e,?_⟩
   rw [telN_snoc,if_pos rfl]
   simp
  ·rw [if_neg e] at hl
   obtain ⟨y,hy,rfl,hp⟩:=h.keys l hl
   refine ⟨y,hy,rfl,?_⟩
   rw [telN_snoc]
   split
   ·simp
   ·exact hp
 ·rw [hset y hy]
  rw [telN_snoc] at hp
  split
  ·rfl
  ·rename_i e
   rw [if_neg e] at hp
   exact h.vals y hy hp
 ·have hf:=h.fam.put2 (i:=x) hx (W':=W') (v':=v') (n':=(telN ps x ++ [d]).length) (cs':=cellsOf 8 fTd (telN ps x ++ [d])) (fun g h1 h2 h3 => hk g h1 (by omega) (fun c => h3 c.symm)) ho hat
  refine hf.congr (fun _ h => h) (fun y hy => ?_) (fun y hy => ?_) (fun y hy => ?_)
  ·rw [hset y hy]
   by_cases e : y = x
   ·subst e
    rw [if_pos rfl,upd_self]
    rfl
   ·rw [if_neg e,upd_ne _ _ e]
  ·rw [telN_snoc]
   by_cases e : y = x
   ·subst e
    rw [if_pos rfl,upd_self]
   ·rw [if_neg e,upd_ne _ _ e]
  ·rw [telN_snoc]
   by_cases e : y = x
   ·subst e
    rw [if_pos rfl,upd_self]
   ·rw [if_neg e,upd_ne _ _ e]
end
def tellIJ (ts : List TchD) (qs : List Nat) (i j : Nat) : List (ByteArray × TdD):=tellA ts (qs.take i) ++ (tellT (tAt ts (qs.getD i 0))).take j
theorem tellIJ_zero (ts : List TchD) (qs : List Nat) (i : Nat) : tellIJ ts qs i 0 = tellA ts (qs.take i):=by unfold tellIJ; simp
theorem tellIJ_full (ts : List TchD) {qs : List Nat} {i : Nat} (h : i < qs.length) : tellIJ ts qs i (tAt ts qs[i]).fields.length = tellA ts (qs.take (i + 1)):=by
 unfold tellIJ tellA
 rw [List.take_succ_eq_append_getElem h,List.flatMap_append]
 congr 1
 have : qs.getD i 0 = qs[i]:=by simp [h]
 rw [this]
 have hl : (tellT (tAt ts qs[i])).length = (tAt ts qs[i]).fields.length:=by unfold tellT; rw [List.length_map]
 rw [← hl,List.take_length]
 simp
theorem tellIJ_succ (ts : List TchD) {qs : List Nat} {i j : Nat} (h : i < qs.length) (hj : j < (tAt ts qs[i]).fields.length) : tellIJ ts qs i (j + 1) = tellIJ ts qs i j ++ [((tAt ts qs[i]).fields[j].name,mkTd (tAt ts qs[i]) (tAt ts qs[i]).fields[j].v)]:=by
 unfold tellIJ
 have : qs.getD i 0 = qs[i]:=by simp [h]
 rw [this]
 have hl : (tellT (tAt ts qs[i])).length = (tAt ts qs[i]).fields.length:=by unfold tellT; rw [List.length_map]
 rw [List.take_succ_eq_append_getElem (by rw [hl]; exact hj),List.append_assoc]
 congr 2
 unfold tellT
 rw [List.getElem_map]
open Go.RowKit
instance : Inhabited FD:=⟨⟨⟨#[]⟩,⟨0,⟨#[]⟩,0⟩⟩⟩
theorem fFd_one (d : FD) (m : Nat) : (fFd d m).oneCell' = true:=by
 unfold fFd
 split <;> rfl
theorem sortFunc_Fd (cf : FD → FD → Int) (hc : CmpOk cf) (g : Nat) (cb : Array Value) (hcall : ∀ args w,(callFunc g args).run Tryz.prog w = .ok (.enter g args) w)
  (hcmp : ∀ (W : World) (a b : FD),Calls Tryz.prog g (#[.agg #[.string a.name,.int .i64 a.v.kind,.string a.v.text,.int .i64 a.v.num],.agg #[.string b.name,.int .i64 b.v.kind,.string b.v.text,.int .i64 b.v.num]] ++ cb) W fun e W' => e = .returned (.int .i64 (cf a b)) ∧ Gro W W')
  (B : Nat) (v : Value) (ds : List FD) (w : World) (hO : Orow w B 78 4 fFd v ds) (hl : ds.length ≤ 1000000) :
  Calls Tryz.prog 184 #[v,.func (.func g) #[] cb] w fun e w' =>
   e = .returned (.tuple #[]) ∧ ∃ ds' : List FD,ds'.Perm ds ∧ (ds'.Pairwise fun a b => cf a b ≤ 0) ∧ Orow w' B 78 4 fFd v ds' ∧ w.grownBy w' v.ownBlock:=by
 by_cases hne : ds = []
 ·subst hne
  obtain ⟨A,cap,hv,-⟩:=hO.slice
  subst hv
  refine (AnyF.slices_SortFunc_none Tryz.sortFd A cap (.func (.func g) #[] cb) w).mono ?_
  rintro e w' ⟨rfl,rfl⟩
  exact ⟨rfl,[],List.Perm.refl _,List.Pairwise.nil,hO,⟨rfl,rfl,rfl,Nat.le_refl _,fun k hk _ => rfl⟩⟩
 ·obtain ⟨q,cap,rest,hv,hle,hB,hq,hm,hk,hr⟩:=hO.form hne
  subst hv
  refine (AnyQ.slices_SortFunc Tryz.sortFd 4 (fun w => by kernel_rfl) (fun w => by kernel_rfl) (encK 4 fFd) (fun x => encK_len x) ?_ cf (swo_of hc) g cb q 0 cap ds.toArray w hcall ?_ (holdsK_of_blk hk) hq (by simp; omega)).mono ?_
  ·intro x u hu
   unfold encK at hu
   obtain ⟨m,hm,rfl⟩:=List.mem_map.1 hu
   exact fFd_one x m
  ·intro m os dk hs x y
   exact hcmp _ x y
  ·rintro e w' ⟨rfl,d',n,os,hp,hs,rfl⟩
   have hp2:=permIn_list hp
   have hs2:=sortedIn_list (d:=d') (by rw [hp.1]; exact hs)
   have hl2 : d'.toList.length = ds.length:=by simpa using hp2.length_eq
   refine ⟨rfl,d'.toList,by simpa using hp2,hs2.imp (fun {a b} h => ?_),?_,grown_sortWorldK _ _ _ _ _⟩
   ·unfold ltOf at h
    rw [decide_eq_false_iff_not] at h
    have:=hc.swap a b
    omega
   ·have:=kblk_sortWorldK (ds':=d'.toList) hk hl2 n os
    have h2:=Orow.of_blk this hB hm (by rw [hl2]; exact hle) (by rw [hl2]; exact hr)
    rw [hl2] at h2
    simpa using h2
open Go.RowKit
structure RecD (surs : List SurD) (ps : List (ByteArray × TdD)) (fs : List FD) : Prop where
 asc : fs.Pairwise fun a b => cmpS a.name b.name < 0
 val : ∀ f ∈ fs,telN ps f.name ≠ [] ∧ f.v = (survT surs f.name (telN ps f.name)).v
 all : ∀ x,FitN x → telN ps x ≠ [] → ∃ f ∈ fs,f.name = x
theorem nodup_sub {α : Type} [DecidableEq α] : ∀ (l m : List α),l.Nodup → (∀ x ∈ l,x ∈ m) → l.length ≤ m.length
 | [],m,_,_ => Nat.zero_le _
 | x :: l,m,hn,hs => by
  have hx:=hs x List.mem_cons_self
  have h2:=nodup_sub l (m.erase x) (List.nodup_cons.1 hn).2 fun y hy => by
   have hne : y ≠ x:=fun e => (List.nodup_cons.1 hn).1 (e ▸ hy)
   exact (List.mem_erase_of_ne hne).2 (hs y (List.mem_cons_of_mem _ hy))
  have h3:=List.length_erase_of_mem hx
  have h4:=List.length_pos_of_mem hx
  rw [List.length_cons]
  omega
theorem telN_name {ps : List (ByteArray × TdD)} {x : ByteArray} (h : telN ps x ≠ []) : x ∈ ps.map (·.1):=by
 obtain ⟨d,hd⟩:=List.exists_mem_of_ne_nil _ h
 unfold telN at hd
 obtain ⟨p,hp,-⟩:=List.mem_map.1 hd
 obtain ⟨h1,h2⟩:=List.mem_filter.1 hp
 exact List.mem_map.2 ⟨p,h1,eqS_iff.1 h2⟩
structure RcL (w3 : World) (bt rb n : Nat) (m : Lit → Option Value) (surs : List SurD) (ps : List (ByteArray × TdD)) (left : Lit → Bool) (cnt : Nat) (fs : List FD) (wr : World) : Prop where
 rg : Rg Tryz.prog 9 wr bt rb n m left cnt
 bel : Below w3.heap.size w3 wr
 lft : ∀ l,WideAt.IsKeyLit l → left l = true → (m l).isSome = true
 nd : (fs.map (·.name)).Nodup
 mem : ∀ f ∈ fs,FitN f.name ∧ left (codeLit f.name) = false ∧ telN ps f.name ≠ [] ∧ f.v = (survT surs f.name (telN ps f.name)).v
 all : ∀ x,FitN x → telN ps x ≠ [] → (∃ f ∈ fs,f.name = x) ∨ left (codeLit x) = true
section
variable {w3 wr W' : World} {bt rb n : Nat} {m : Lit → Option Value} {surs : List SurD} {ps : List (ByteArray × TdD)} {left : Lit → Bool} {cnt cnt' : Nat} {fs : List FD}
theorem RcL.len (h : RcL w3 bt rb n m surs ps left cnt fs wr) : fs.length ≤ ps.length:=by
 have:=nodup_sub (fs.map (·.name)) (ps.map (·.1)) h.nd fun x hx => by
  obtain ⟨f,hf,rfl⟩:=List.mem_map.1 hx
  exact telN_name (h.mem f hf).2.2.1
 rwa [List.length_map,List.length_map] at this
theorem RcL.take (h : RcL w3 bt rb n m surs ps left cnt fs wr) {x : ByteArray} (hx : FitN x) (hl : left (codeLit x) = true) (hp : telN ps x ≠ []) (hrg : Rg Tryz.prog 9 W' bt rb n m (fun z => left z && !z.sameKey (codeLit x)) cnt') (hb : Below w3.heap.size w3 W') :
  RcL w3 bt rb n m surs ps (fun z => left z && !z.sameKey (codeLit x)) cnt' (fs ++ [⟨x,(survT surs x (telN ps x)).v⟩]) W':=by
 have hnot : ∀ f ∈ fs,f.name ≠ x:=fun f hf c => by have:=(h.mem f hf).2.1; rw [c,hl] at this; cases this
 refine ⟨hrg,hb,fun l h2 h3 => h.lft l h2 (by simp only [Bool.and_eq_true] at h3; exact h3.1),?_,fun f hf => ?_,fun y hy hp2 => ?_⟩
 ·rw [List.map_append,List.nodup_append]
  refine ⟨h.nd,by simp,fun a ha b hb => ?_⟩
  obtain ⟨f,hf,rfl⟩:=List.mem_map.1 ha
  simp at hb
  rw [hb]
  exact hnot f hf
 ·rcases List.mem_append.1 hf with hf | hf
  ·obtain ⟨h1,h2,h3⟩:=h.mem f hf
   exact ⟨h1,by simp only [h2,Bool.false_and],h3⟩
  ·simp at hf
   subst hf
   exact ⟨hx,by simp [codeLit_self],hp,rfl⟩
 ·rcases h.all y hy hp2 with ⟨f,hf,e⟩ | h3
  ·exact Or.inl ⟨f,List.mem_append_left _ hf,e⟩
  ·by_cases e : y = x
   ·exact Or.inl ⟨_,List.mem_append_right _ (List.mem_singleton.2 rfl),e.symm⟩
   ·right
    have : (codeLit y).sameKey (codeLit x) = false:=Bool.eq_false_iff.2 fun c => e (codeLit_inj (WideAt.sameKey_eq c))
    simp only [h3,this]
    rfl
theorem RcL.fin (h : RcL w3 bt rb n m surs ps left cnt fs wr) (hl : ∀ kl,left kl = false) {fs' : List FD} (hp : fs'.Perm fs) (hs : fs'.Pairwise fun a b => cmpS a.name b.name ≤ 0) : RecD surs ps fs':=by
 have hnd : (fs'.map (·.name)).Nodup:=(hp.map _).nodup_iff.2 h.nd
 unfold List.Nodup at hnd
 rw [List.pairwise_map] at hnd
 refine ⟨?_,fun f hf => ?_,fun x hx hne => ?_⟩
 ·have:=hs.and hnd
  refine this.imp ?_
  intro a b hab
  rcases Int.lt_or_lt_of_ne (fun c : cmpS a.name b.name = 0 => hab.2 (cmpS_zero c)) with c | c
  ·exact c
  ·omega
 ·exact (h.mem f (hp.mem_iff.1 hf)).2.2
 ·rcases h.all x hx hne with ⟨f,hf,e⟩ | h3
  ·exact ⟨f,hp.mem_iff.2 hf,e⟩
  ·rw [hl] at h3; cases h3
end
theorem GrpIn.leR {H H' : Frz} {gp bm n : Nat} {m : Lit → Option Value} {r : RulD} {A : Option Addr} {cap : Nat} {ts : List TchD} (h : GrpIn H gp bm n m r A cap ts) (hl : H.Le H') : GrpIn H' gp bm n m r A cap ts:=by
 refine ⟨hl _ _ h.obj,fun W hW => h.map W (hW.le hl),?_,fun x hx hp => ?_,h.none_,h.keys,h.rul.le hl,h.tch.le hl⟩
 ·obtain ⟨o,ho⟩:=h.blk
  exact ⟨o,hl _ _ ho⟩
 ·obtain ⟨B,c,e,hR,hc⟩:=h.some_ x hx hp
  exact ⟨B,c,e,hR.le hl,hc⟩
def fdCmp (a b : FD) : Int:=cmpS a.name b.name
theorem fdCmp_ok : CmpOk fdCmp:=⟨fun a b => cmpS_ok.swap a.name b.name,fun a b c => cmpS_ok.trans a.name b.name c.name⟩
set_option maxHeartbeats 1000000 in
set_option maxRecDepth 100000 in
theorem fdCmp_g (a b : FD) (w : World) : Calls Tryz.prog 185 (#[.agg #[.string a.name,.int .i64 a.v.kind,.string a.v.text,.int .i64 a.v.num],.agg #[.string b.name,.int .i64 b.v.kind,.string b.v.text,.int .i64 b.v.num]] ++ #[]) w fun e w' => e = .returned (.int .i64 (fdCmp a b)) ∧ Gro w w':=by
 have hb:=Lib.hid ((Gro.alloc w (.cells #[.string a.name,.int .i64 a.v.kind,.string a.v.text,.int .i64 a.v.num] 78)).trans (Gro.alloc _ (.cells #[.string b.name,.int .i64 b.v.kind,.string b.v.text,.int .i64 b.v.num] 78)))
 have h1 : ((w.alloc (.cells #[.string a.name,.int .i64 a.v.kind,.string a.v.text,.int .i64 a.v.num] 78)).alloc (.cells #[.string b.name,.int .i64 b.v.kind,.string b.v.text,.int .i64 b.v.num] 78)).heap[w.heap.size]? = some (.cells #[.string a.name,.int .i64 a.v.kind,.string a.v.text,.int .i64 a.v.num] 78):=(heap_lt (by simp)).trans (heap_alloc_new _ _)
 have h2 : ((w.alloc (.cells #[.string a.name,.int .i64 a.v.kind,.string a.v.text,.int .i64 a.v.num] 78)).alloc (.cells #[.string b.name,.int .i64 b.v.kind,.string b.v.text,.int .i64 b.v.num] 78)).heap[w.heap.size + 1]? = some (.cells #[.string b.name,.int .i64 b.v.kind,.string b.v.text,.int .i64 b.v.num] 78):=heap_at (by simp)
 have c0:=cell_h h1 0 (v:=.string a.name) rfl
 have c1:=cell_h h2 0 (v:=.string b.name) rfl
 clear h1 h2
 show Calls Tryz.prog 185 #[.agg #[.string a.name,.int .i64 a.v.kind,.string a.v.text,.int .i64 a.v.num],.agg #[.string b.name,.int .i64 b.v.kind,.string b.v.text,.int .i64 b.v.num]] w _
 go_enter Tryz.func185,Tryz.ntmps185
 go_wp2_with fail
 refine (cmpStr_any _ _ _).mono ?_
 rintro e w' ⟨rfl,rfl⟩
 have HC : Hid (cmpS a.name b.name = fdCmp a b):=rfl
 generalize cmpS a.name b.name = c at *
 go_wp2_with fail
 go_ret
 exact ⟨ret_int HC.out,hb.out⟩
open Go.RowKit Go.ChangeMaps
theorem laidOutV_ : Go.laidOutB Tryz.prog = true:=by kernel_rfl
theorem rowVal_ : (37 : TypeId) < Tryz.prog.types.size:=of_decide_eq_true (by kernel_rfl)
theorem ktVal_ : Tryz.prog.keyTypeAt 2 37 = true:=by kernel_rfl
set_option maxRecDepth 100000 in
theorem valLaw : WideMaps.KeyLaw Tryz.prog 37:=by
 refine deep_law (m:=2) (by omega) ktVal_ (tiled_of_laidOut laidOutV_ 2 _ ?_ ktVal_) ?_
 ·simp only [isVar,Bool.and_eq_true,decide_eq_true_eq]
  refine ⟨rowVal_,?_⟩
  rw [Tryz.underlying37]; rfl
 ·rw [Tryz.underlying37]
theorem valKeyed : Maps.Keyed Tryz.prog 37:=Maps.Keyed.of_law valLaw
def klV (d : VD) : Lit:=.string (keyBytes [.int .i64 d.kind,.string d.text.data.toList,.int .i64 d.num])
def FitV (d : VD) : Prop:=(-9223372036854775808 ≤ d.kind ∧ d.kind ≤ 9223372036854775807) ∧ d.text.size ≤ 1000000 ∧ -9223372036854775808 ≤ d.num ∧ d.num ≤ 9223372036854775807
theorem keyGenV {P : Program} {k : TypeId} (hu : P.underlying k = some (.struct #[{ name := "Kind", type := 3, offset := 0, embedded := false, tag := "", pkgPath := "", byteOffset := 0 }, { name := "Text", type := 9, offset := 1, embedded := false, tag := "", pkgPath := "", byteOffset := 8 }, { name := "Number", type := 3, offset := 2, embedded := false, tag := "", pkgPath := "", byteOffset := 24 }])) (hk : P.keyType k = true) (c2 : P.cellsOf k = 3)
  (u1 : P.underlying 3 = some (.int .i64)) (u2 : P.underlying 9 = some .string) (c1 : P.cellsOf 3 = 1) (c0 : P.cellsOf 9 = 1) (hs : 0 < P.types.size) {d : VD} (h : FitV d) : keyOf P k (.agg #[.int .i64 d.kind,.string d.text,.int .i64 d.num]) = some (klV d):=by
 obtain ⟨m,hm⟩:=Nat.exists_eq_succ_of_ne_zero (Nat.ne_of_gt hs)
 have h1 : (Lit.int .i64 d.kind).wf = true:=by
  have:=h.1
  simp [Lit.wf,IntKind.min,IntKind.max,IntKind.signed,IntKind.bits]
  omega
 have h3 : (Lit.int .i64 d.num).wf = true:=by
  have:=h.2.2
  simp [Lit.wf,IntKind.min,IntKind.max,IntKind.signed,IntKind.bits]
  omega
 have h2 : d.text.size ≤ maxLen:=by have:=h.2.1; unfold maxLen; omega
 simp [keyOf,hu,hk,Value.formed,Value.cells,hm,Program.keyLits,c2,c1,c0,u1,u2,h1,h2,h3,klV]
theorem keyV {d : VD} (h : FitV d) : keyOf Tryz.prog 37 (.agg #[.int .i64 d.kind,.string d.text,.int .i64 d.num]) = some (klV d) :=
 keyGenV Tryz.underlying37 (by kernel_rfl) (by kernel_rfl) Tryz.underlying3 Tryz.underlying9 (by kernel_rfl) (by kernel_rfl) (Nat.lt_of_le_of_lt (Nat.zero_le _) rowVal_) h
theorem klV_inj {a b : VD} (ha : FitV a) (hb : FitV b) (h : klV a = klV b) : a = b:=by
 have h1:=keyV ha
 rw [h] at h1
 have:=valKeyed.inj h1 (keyV hb)
 simp at this
 cases a; cases b; simp_all
theorem sameV_iff {a b : VD} : sameV a b = true ↔ a = b:=by
 unfold sameV
 simp only [Bool.and_eq_true,beq_iff_eq]
 constructor
 ·rintro ⟨⟨h1,h2⟩,h3⟩
  have h2 : eqS a.text b.text = true:=by unfold eqS; simpa using h2
  have h2:=eqS_iff.1 h2
  cases a; cases b; simp_all
 ·rintro rfl; simp
section
variable {P : Program} {k e t : TypeId} {w w' : World} {b n : Nat} {m : Lit → Option Value} {key : Value} {kl : Lit}
theorem entry_same {H : Type} {R : Value → Option (DataW H × List MemPlace)} {es : Array MapEntry} {clock : Nat} (K : WideMaps.KeyLaw P k) (ht : P.underlying t = some (.map k e)) {z : Value} (hz : ∀ u : World,(zeroValue e).run P u = .ok z u) (hb : w.heap[b]? = some (.map es clock)) (F : WideElems.Fit P k R es clock)
  (hkey : keyOf P k key = some kl) : ∃ (v0 : Value) (st : Nat) (es1 : Array MapEntry) (clock1 : Nat),(Instr.mapEntry t (.map (some b)) key).run P w = .ok (.tuple #[v0,goInt st]) (setBlock w b (.map es1 clock1)) ∧ (Instr.mapUpdate t (.map (some b)) key v0).run P w = .ok () (setBlock w b (.map es1 clock1)):=by
 rcases K.find w hkey es.toList F.keys with ⟨h1,h2⟩ | ⟨j,e0,h1,h2,h3⟩
 ·refine ⟨z,clock,es.push ⟨key,z,clock⟩,clock + 1,?_,?_⟩
  ·simp [Instr.mapEntry,run_underlying ht,MapKept.run_getObj_map hb,K.check w false hkey,h1,hz,MapKept.run_setObj_map _ hb,Result.andThen,setBlock]
  ·simp [Instr.mapUpdate,run_underlying ht,MapKept.run_getObj_map hb,K.check w false hkey,h1,MapKept.run_setObj_map _ hb,Result.andThen,setBlock]
 ·have hj : es[j]? = some e0:=by simpa using h2
  have hsame : es.modify j (fun e => { e with key:=key }) = es:=by
   apply Array.ext'
   rw [Array.toList_modify,modify_eq_set _ _ _ _ h2]
   have : ({ e0 with key:=key } : MapEntry) = e0:=by rw [← h3]
   rw [this]
   exact WideElems.set_self _ _ _ h2
  have hsame2 : es.modify j (fun e' => { e' with key:=key,val:=e0.val }) = es:=by
   apply Array.ext'
   rw [Array.toList_modify,modify_eq_set _ _ _ _ h2]
   have : ({ e0 with key:=key,val:=e0.val } : MapEntry) = e0:=by rw [← h3]
   rw [this]
   exact WideElems.set_self _ _ _ h2
  refine ⟨e0.val,e0.born,es,clock,?_,?_⟩
  ·simp [Instr.mapEntry,run_underlying ht,MapKept.run_getObj_map hb,K.check w false hkey,h1,hj,h3,K.stays w hkey,hsame,MapKept.run_setObj_map _ hb,Result.andThen,setBlock]
  ·simp [Instr.mapUpdate,run_underlying ht,MapKept.run_getObj_map hb,K.check w false hkey,h1,hj,h3,K.stays w hkey,hsame2,MapKept.run_setObj_map _ hb,Result.andThen,setBlock]
theorem Mp.entryL (h : Mp P k w b n m) (K : WideMaps.KeyLaw P k) (ht : P.underlying t = some (.map k e)) {z : Value} (hz : ∀ u : World,(zeroValue e).run P u = .ok z u) (hn : n < maxLen) (hkey : keyOf P k key = some kl) :
  ∃ (st : Nat) (es1 : Array MapEntry) (clock1 : Nat),(Instr.mapEntry t (.map (some b)) key).run P w = .ok (.tuple #[(m kl).getD z,goInt st]) (setBlock w b (.map es1 clock1)) ∧
   (∀ w2 : World,w2.heap[b]? = some (.map es1 clock1) → Mp P k w2 b (n + 1) (mpSet m kl ((m kl).getD z))) ∧
   ∀ (w2 : World) (val : Value),w2.heap[b]? = some (.map es1 clock1) → ∃ w3,(Instr.entryStore t (.map (some b)) (goInt st) val).run P w2 = .ok () w3 ∧ Mp P k w3 b (n + 1) (mpSet m kl val) ∧ w2.grownBy w3 (some b) ∧ w3.heap.size = w2.heap.size:=by
 obtain ⟨st,es1,c1,h1,h2⟩:=h.entry K ht hz hn hkey
 refine ⟨st,es1,c1,h1,fun w2 hw2 => ?_,h2⟩
 obtain ⟨D,⟨es,clock,hb,F,hsz,rfl⟩,hd⟩:=id h
 obtain ⟨v0,st',es1',c1',g1,g2⟩:=entry_same K ht hz hb F hkey
 rw [h1] at g1
 injection g1 with g1 g3
 have hl : b < w.heap.size:=lt_of_heap hb
 have e1 : (setBlock w b (.map es1 c1)).heap[b]? = some (.map es1 c1):=setBlock_at _ hl
 have e2 : (setBlock w b (.map es1' c1')).heap[b]? = some (.map es1' c1'):=setBlock_at _ hl
 rw [g3,e2] at e1
 have hv : v0 = (m kl).getD z:=by
  injection g1 with g1
  have:=congrArg (fun a : Array Value => a[0]?) g1
  simpa using this.symm
 subst hv
 obtain ⟨wu,hu,r1,r2,r3⟩:=h.update (Maps.Keyed.of_law K) ht hn hkey ((m kl).getD z)
 rw [g2] at hu
 injection hu with _ hu
 subst hu
 refine r1.block ?_
 rw [hw2,e2,e1]
end
def OftIs (l : List TdD) (m : Lit → Option Value) : Prop:=∀ v,FitV v → (m (klV v)).getD (.int .i64 0) = .int .i64 ((l.filter fun x => sameV x.v v).length : Int)
theorem OftIs.new : OftIs [] mpNew:=fun d _ => rfl
theorem OftIs.set {l : List TdD} {m : Lit → Option Value} (h : OftIs l m) {x : TdD} (hx : FitV x.v) : OftIs (l ++ [x]) (mpSet m (klV x.v) (.int .i64 (((l.filter fun y => sameV y.v x.v).length : Int) + 1))):=by
 intro d hd
 unfold mpSet
 by_cases c : d = x.v
 ·subst c
  have e : (klV x.v).sameKey (klV x.v) = true:=by simp [klV,Lit.sameKey]
  rw [if_pos e,List.filter_append]
  simp [sameV_iff.2 (rfl : x.v = x.v)]
 ·have e : ¬ (klV d).sameKey (klV x.v) = true:=fun e => c (klV_inj hd hx (WideAt.sameKey_eq e))
  rw [if_neg e,h d hd,List.filter_append]
  have : sameV x.v d = false:=Bool.eq_false_iff.2 fun e => c (sameV_iff.1 e).symm
  simp [this]
open Go.RowKit
def srcL (surs : List SurD) (ps : List (ByteArray × TdD)) (name : ByteArray) : List Int:=((telN ps name).filter fun x => sameV x.v (survT surs name (telN ps name)).v).map (·.no)
theorem telN_mem {ts : List TchD} {qs : List Nat} {name : ByteArray} {d : TdD} : d ∈ telN (tellA ts qs) name ↔ ∃ q ∈ qs,∃ f ∈ (tAt ts q).fields,f.name = name ∧ d = mkTd (tAt ts q) f.v:=by
 unfold telN tellA tellT
 rw [List.mem_map]
 constructor
 ·rintro ⟨⟨a,b⟩,h,rfl⟩
  obtain ⟨h1,h2⟩:=List.mem_filter.1 h
  obtain ⟨q,hq,h3⟩:=List.mem_flatMap.1 h1
  obtain ⟨f,hf,h4⟩:=List.mem_map.1 h3
  injection h4 with h4 h5
  refine ⟨q,hq,f,hf,?_,h5.symm⟩
  rw [h4]
  exact eqS_iff.1 h2
 ·rintro ⟨q,hq,f,hf,hn,rfl⟩
  refine ⟨(f.name,mkTd (tAt ts q) f.v),List.mem_filter.2 ⟨List.mem_flatMap.2 ⟨q,hq,List.mem_map.2 ⟨f,hf,rfl⟩⟩,eqS_iff.2 hn⟩,rfl⟩
theorem srcL_mem {surs : List SurD} {ps : List (ByteArray × TdD)} {name : ByteArray} {n : Int} : n ∈ srcL surs ps name ↔ ∃ d ∈ telN ps name,d.v = (survT surs name (telN ps name)).v ∧ d.no = n:=by
 unfold srcL
 rw [List.mem_map]
 constructor
 ·rintro ⟨d,h,rfl⟩
  obtain ⟨h1,h2⟩:=List.mem_filter.1 h
  exact ⟨d,h1,sameV_iff.1 h2,rfl⟩
 ·rintro ⟨d,h1,h2,rfl⟩
  exact ⟨d,List.mem_filter.2 ⟨h1,sameV_iff.2 h2⟩,rfl⟩
theorem srcL_ne {surs : List SurD} {ps : List (ByteArray × TdD)} {name : ByteArray} (h : telN ps name ≠ []) : srcL surs ps name ≠ []:=by
 intro c
 have : (survT surs name (telN ps name)).no ∈ srcL surs ps name:=srcL_mem.2 ⟨_,survT_mem surs name h,rfl,rfl⟩
 rw [c] at this
 cases this
theorem fd_eq {a b : FD} (h1 : a.name = b.name) (h2 : a.v = b.v) : a = b:=by
 cases a; cases b
 simp only at h1 h2
 rw [h1,h2]
theorem no_injR {ts : List TchD} (hno : ts.Pairwise fun a b => a.no < b.no) {i j : Nat} (hi : i < ts.length) (hj : j < ts.length) (h : ts[i].no = ts[j].no) : i = j:=by
 rcases Nat.lt_trichotomy i j with c | c | c
 ·have:=List.pairwise_iff_getElem.1 hno i j hi hj c; omega
 ·exact c
 ·have:=List.pairwise_iff_getElem.1 hno j i hj hi c; omega
theorem srcs_iff {surs : List SurD} {ts : List TchD} (hno : ts.Pairwise fun a b => a.no < b.no) {qs : List Nat} (hq : ∀ q ∈ qs,q < ts.length) {f : FD} (hv : f.v = (survT surs f.name (telN (tellA ts qs) f.name)).v) {i : Nat} (hi : i < ts.length) :
  ts[i].no ∈ srcL surs (tellA ts qs) f.name ↔ (f ∈ ts[i].fields ∧ ts[i].no ∈ qs.map fun q => (tAt ts q).no):=by
 rw [srcL_mem]
 constructor
 ·rintro ⟨d,hd,h1,h2⟩
  obtain ⟨q,hqm,g,hg,hn,rfl⟩:=telN_mem.1 hd
  have hql:=hq q hqm
  rw [tAt_lt hql] at h2 hg h1
  have e:=no_injR hno hql hi h2
  subst e
  refine ⟨?_,List.mem_map.2 ⟨q,hqm,by rw [tAt_lt hql]⟩⟩
  have : f = g:=fd_eq hn.symm (hv.trans h1.symm)
  rw [this]
  exact hg
 ·rintro ⟨h1,h2⟩
  obtain ⟨q,hqm,h3⟩:=List.mem_map.1 h2
  have hql:=hq q hqm
  rw [tAt_lt hql] at h3
  have e:=no_injR hno hql hi h3
  subst e
  refine ⟨mkTd (tAt ts q) f.v,telN_mem.2 ⟨q,hqm,f,by rw [tAt_lt hql]; exact h1,rfl,rfl⟩,hv,?_⟩
  rw [tAt_lt hql]
  rfl
theorem rec_told {surs : List SurD} {ts : List TchD} {qs : List Nat} (hq : ∀ q ∈ qs,q < ts.length) {fs : List FD} (h : RecD surs (tellA ts qs) fs) {f : FD} (hf : f ∈ fs) : ∃ t ∈ ts,f ∈ t.fields:=by
 obtain ⟨h1,h2⟩:=h.val f hf
 obtain ⟨q,hqm,g,hg,hn,he⟩:=telN_mem.1 (survT_mem surs f.name h1)
 rw [he] at h2
 have : f = g:=fd_eq hn.symm h2
 rw [this]
 exact ⟨_,tAt_mem (hq q hqm),hg⟩
theorem asc_nodup {fs : List FD} (h : fs.Pairwise fun a b => cmpS a.name b.name < 0) : (fs.map (·.name)).Nodup:=by
 unfold List.Nodup
 rw [List.pairwise_map]
 refine h.imp ?_
 intro a b hab e
 rw [e,cmpS_self] at hab
 omega
theorem rec_len {surs : List SurD} {ts : List TchD} {qs : List Nat} (hq : ∀ q ∈ qs,q < ts.length) {fs : List FD} (h : RecD surs (tellA ts qs) fs) {nms : List ByteArray} (hn : ∀ t ∈ ts,∀ f ∈ t.fields,f.name ∈ nms) : fs.length ≤ nms.length:=by
 have:=nodup_sub (fs.map (·.name)) nms (asc_nodup h.asc) fun x hx => by
  obtain ⟨f,hf,rfl⟩:=List.mem_map.1 hx
  obtain ⟨t,ht,h2⟩:=rec_told hq h hf
  exact hn t ht f h2
 rwa [List.length_map] at this
theorem fdsE_mem {ok : ByteArray → Bool} {fs : List FD} (h : fdsE ok fs = 0) {f : FD} (hf : f ∈ fs) : isKey f.name = true ∧ valErr ok f.v = 0:=by
 unfold fdsE at h
 split at h
 ·cases h
 ·obtain ⟨i,hi,rfl⟩:=List.getElem_of_mem hf
  have:=fstErr_zero.1 h i hi
  unfold fd1 at this
  rw [List.getElem?_eq_getElem hi] at this
  simp only at this
  split at this
  ·cases this
  ·rename_i h1
   split at this
   ·rename_i h2; exact absurd this h2
   ·rename_i h2
    exact ⟨by simpa using h1,by simpa using h2⟩
theorem rec_right {ok : ByteArray → Bool} {surs : List SurD} {ts : List TchD} {qs : List Nat} (hq : ∀ q ∈ qs,q < ts.length) {fs : List FD} (h : RecD surs (tellA ts qs) fs) (hr : ∀ t ∈ ts,fdsE ok t.fields = 0) (hl : fs.length ≤ 30) : fdsE ok fs = 0:=by
 unfold fdsE
 rw [if_neg (by omega)]
 refine fstErr_zero.2 fun i hi => ?_
 unfold fd1
 rw [List.getElem?_eq_getElem hi]
 obtain ⟨t,ht,hf⟩:=rec_told hq h (List.getElem_mem hi)
 obtain ⟨h1,h2⟩:=fdsE_mem (hr t ht) hf
 simp only [h1,h2]
 simp only [Bool.true_eq_false,if_false,ne_eq,not_true_eq_false]
 split
 ·rename_i h3
  have hp:=List.pairwise_iff_getElem.1 h.asc (i - 1) i (by omega) hi (by omega)
  have e : fs.getD (i - 1) fs[i] = fs[i - 1]'(by omega):=by
   rw [List.getD_eq_getElem?_getD,List.getElem?_eq_getElem (by omega)]
   rfl
  rw [e] at h3
  omega
 ·rfl
open Go.RowKit
theorem infoTd : (Tryz.prog.info? 167).map (fun i => (i.zero,i.size,i.bytes)) = some (some (.agg #[.int .i64 0,.int .i64 0,.string ⟨#[]⟩,.slice none 0 0,.slice none 0 0,.int .i64 0,.string ⟨#[]⟩,.int .i64 0]),8,112):=by kernel_rfl
section
variable {D : Type}
set_option maxHeartbeats 1000000 in
set_option maxRecDepth 100000 in
theorem clone_Td (H : Frz) (f : D → Nat → Value) (ds : List D) (hf : ∀ d ∈ ds,∀ m,(f d m).oneCell' = true) (A : Option Addr) (cap : Nat) (w : World) (hH : H.In w) (hR : Rw H A 8 f ds) (hl : ds.length ≤ 1000000) :
  Calls Tryz.prog 249 #[.slice A ds.length cap] w fun e w' => (∃ v,e = .returned v ∧ Orow w' w.heap.size 167 8 f v ds) ∧ Below w.heap.size w w':=by
 obtain ⟨i0,hi0,hz0,hz1,hz2⟩:=info_parts infoTd
 cases A with
 | none =>
  have hd : ds = []:=by
   cases ds with
   | nil => rfl
   | cons d ds => obtain ⟨b,off,e,_⟩:=hR 0 (by simp); cases e
  subst hd
  have hn:=fun wx => Lib.run_eql_slice_nil (P:=Tryz.prog) wx 162 167 none 0 cap 0 0 Tryz.underlying162
  clear hR hH hf
  go_enter Tryz.func249,Tryz.ntmps249
  go_wp2_with fail
  go_ret
  exact ⟨⟨_,rfl,Orow.nil _ _ _ _ _⟩,Below.refl _ _⟩
 | some ad =>
  have hnews : Hid (∀ j u,(cellsOf 8 f ds)[j]? = some u → w.cell? (ad.add j) = some u):=by
   intro j u hu
   have hj : j < ds.length * 8:=by have:=(List.getElem?_eq_some_iff.1 hu).1; rwa [cellsOf_len] at this
   obtain ⟨b,off,e,_,hc⟩:=hR.at_ hH (i:=j / 8) (by omega) (by omega)
   injection e with e
   subst e
   have h2:=hc (j % 8) (Nat.mod_lt _ (by omega))
   have h3:=cellsOf_get 8 f ds (j / 8) (j % 8) (by omega) (Nat.mod_lt _ (by omega))
   have e1 : j / 8 * 8 + j % 8 = j:=by omega
   rw [e1,hu] at h3
   rw [Addr.add_lit,show off + j = off + j / 8 * 8 + j % 8 from by omega,h2]
   exact h3.symm
  have hone : Hid (∀ u ∈ cellsOf 8 f ds,u.oneCell' = true):=by
   intro u hu
   simp only [cellsOf,List.mem_flatMap,List.mem_map] at hu
   obtain ⟨d,hd,m,_,rfl⟩:=hu
   exact hf d hd m
  have hlen:=Lib.hid (cellsOf_len 8 f ds)
  have hn:=fun wx => Lib.run_eql_slice_nil (P:=Tryz.prog) wx 162 167 (some ad) ds.length cap 0 0 Tryz.underlying162
  have hown : Hid ((w.alloc (.cells #[] 167)).ownsRow w.heap.size 167 8 (.slice (some ⟨w.heap.size,0,none⟩) 0 0) 0 []):=⟨rfl,Or.inr ⟨w.heap.size,0,#[],rfl,Nat.le_refl _,heap_at rfl,Nat.le_refl _,Nat.zero_le _,rfl,rfl⟩⟩
  have hnews2 : Hid (∀ j u,(cellsOf 8 f ds)[j]? = some u → (w.alloc (.cells #[] 167)).cell? (ad.add j) = some u):=fun j u hu => by
   have:=hnews.out j u hu
   exact (World.cell?_alloc_lt w _ _ (World.block_lt_of_cell? w _ this)).trans this
  clear hR hH hf hnews
  go_enter Tryz.func249,Tryz.ntmps249
  go_wp2_with (at_builtin; refine wpList_append_own _ rfl _ _ 162 rfl w.heap.size 167 i0 (.agg #[.int .i64 0,.int .i64 0,.string ⟨#[]⟩,.slice none 0 0,.slice none 0 0,.int .i64 0,.string ⟨#[]⟩,.int .i64 0]) 8 112 Tryz.underlying162 hi0 hz0 hz1 hz2 rfl (by decide) (.slice (some ⟨w.heap.size,0,none⟩) 0 0) 0 [] rfl hown.out ad ds.length cap (cellsOf 8 f ds) rfl hlen.out hnews2.out hone.out (by simp only [maxLen]; omega) (by omega) (by simp) ?_; intro v1 w2 o1 g1 b1)
  have O1 : Hid (Orow w2 w.heap.size 167 8 f v1 ds):=by
   show World.ownsRow _ _ _ _ _ _ _
   simpa using o1
  have B1 : Hid (Below w.heap.size w w2):=((Below.refl _ w).alloc (Nat.le_refl _) _).grown g1 (by simp) (fun q hq => by simp [Value.ownBlock] at hq; omega)
  clear o1 g1 b1
  go_wp2_with fail
  go_ret
  exact ⟨⟨_,rfl,O1.out⟩,B1.out⟩
end
end Go.Proofs.YtbidhpgjmcedaaaGreatDoor
