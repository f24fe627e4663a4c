/- Texts of this claim, put together: SplitC, RuneP, MeasP, IG, Dist. -/
import Derived.Test.YtbidhpgjmcedaaaGreatDoorGAM
import Derived.Test.YtbidhpgjmcedaaaGreatDoorGAG
import Derived.Test.YtbidhpgjmcedaaaGreatDoorGAK
import Derived.Shelf.Unicode.DecodeSlow
import Derived.Test.YtbidhpgjmcedaaaGreatDoorGAW
import Derived.Test.YtbidhpgjmcedaaaGreatDoorGAH
import Derived.Test.YtbidhpgjmcedaaaGreatDoorGAE
import Derived.StillTailTactics
import Derived.Deep.Cut
namespace Go.Proofs.YtbidhpgjmcedaaaGreatDoor
set_option linter.unusedVariables false
open Go.RowKit
theorem splitC_at {D : Type} (c : D → Int) (ds : List D) (hs : ∀ i j (hi : i < ds.length) (hj : j < ds.length),i < j → 0 ≤ c ds[i] → 0 < c ds[j]) :
  ∃ m,m = (ds.takeWhile fun d => decide (c d < 0)).length ∧ m ≤ ds.length ∧ (∀ i (h : i < ds.length),i < m → c ds[i] < 0) ∧ (∀ i (h : i < ds.length),m ≤ i → 0 ≤ c ds[i]) ∧ (∀ p : D → Bool,(∀ d,p d = true ↔ c d = 0) → ds.find? p = if hasAt c ds m = true then ds[m]? else none):=by
 refine ⟨(ds.takeWhile fun d => decide (c d < 0)).length,rfl,?_,?_,?_,?_⟩
 ·exact (List.takeWhile_sublist _).length_le
 ·intro i h hi
  have e : ds = (ds.takeWhile fun d => decide (c d < 0)) ++ (ds.dropWhile fun d => decide (c d < 0)):=List.takeWhile_append_dropWhile.symm
  have h1 : ds[i]? = (ds.takeWhile fun d => decide (c d < 0))[i]?:=by
   conv => lhs; rw [e]
   rw [List.getElem?_append_left hi]
  rw [List.getElem?_eq_getElem h,List.getElem?_eq_getElem hi] at h1
  injection h1 with h1
  have h2:=List.all_takeWhile (p:=fun d => decide (c d < 0)) (l:=ds)
  have h3:=List.all_eq_true.1 h2 _ (List.getElem_mem hi)
  rw [← h1] at h3
  simpa using h3
 ·intro i h hi
  have e : ds = (ds.takeWhile fun d => decide (c d < 0)) ++ (ds.dropWhile fun d => decide (c d < 0)):=List.takeWhile_append_dropWhile.symm
  generalize hk : (ds.takeWhile fun d => decide (c d < 0)).length = k at hi
  have hkl : k < ds.length:=by omega
  have hd : (ds.dropWhile fun d => decide (c d < 0)).head? = some ds[k]:=by
   have : ds[k]? = (ds.dropWhile fun d => decide (c d < 0))[0]?:=by
    conv => lhs; rw [e]
    rw [List.getElem?_append_right (by omega),hk,Nat.sub_self]
   rw [List.head?_eq_getElem?,← this,List.getElem?_eq_getElem hkl]
  have h0 : 0 ≤ c ds[k]:=by
   have:=List.head?_dropWhile_not (fun d => decide (c d < 0)) ds
   rw [hd] at this
   simpa using this
  rcases Nat.lt_or_eq_of_le hi with hlt | heq
  ·exact Int.le_of_lt (hs k i hkl h hlt h0)
  ·subst heq; exact h0
 ·intro p hp
  have e : ds = (ds.takeWhile fun d => decide (c d < 0)) ++ (ds.dropWhile fun d => decide (c d < 0)):=List.takeWhile_append_dropWhile.symm
  generalize hk : (ds.takeWhile fun d => decide (c d < 0)).length = k
  have hget : ds[k]? = (ds.dropWhile fun d => decide (c d < 0))[0]?:=by
   conv => lhs; rw [e]
   rw [List.getElem?_append_right (by omega),hk,Nat.sub_self]
  have hfT : (ds.takeWhile fun d => decide (c d < 0)).find? p = none:=by
   rw [List.find?_eq_none]
   intro d hd
   have:=List.all_eq_true.1 (List.all_takeWhile (p:=fun d => decide (c d < 0)) (l:=ds)) d hd
   have h2 : c d < 0:=by simpa using this
   rw [hp]; omega
  have hf : ds.find? p = (ds.dropWhile fun d => decide (c d < 0)).find? p:=by
   conv => lhs; rw [e]
   rw [List.find?_append,hfT]; rfl
  rw [hf]
  unfold hasAt
  rw [hget]
  have hmem : ∀ y,(ds.dropWhile fun d => decide (c d < 0))[0]? = some y → ∀ i (h : i < ds.length),k < i → c y = 0 → 0 < c ds[i]:=by
   intro y hy i h hki hcy
   have hkl : k < ds.length:=by omega
   rw [← hget,List.getElem?_eq_getElem hkl] at hy
   injection hy with hy
   exact hs k i hkl h hki (by rw [hy,hcy]; exact Int.le_refl 0)
  have hge : ∀ y,(ds.dropWhile fun d => decide (c d < 0))[0]? = some y → 0 ≤ c y:=by
   intro y hy
   have:=List.head?_dropWhile_not (fun d => decide (c d < 0)) ds
   rw [List.head?_eq_getElem?,hy] at this
   simpa using this
  have hall : ∀ y,(ds.dropWhile fun d => decide (c d < 0))[0]? = some y → ∀ d ∈ (ds.dropWhile fun d => decide (c d < 0)).tail,0 < c d:=by
   intro y hy d hd
   obtain ⟨i,hi,rfl⟩:=List.mem_iff_getElem.1 hd
   have hlen : (ds.dropWhile fun d => decide (c d < 0)).length = ds.length - k:=by
    have:=congrArg List.length e
    rw [List.length_append,hk] at this; omega
   have hi2 : i < ds.length - k - 1:=by simpa [hlen] using hi
   have hkl : k < ds.length:=by omega
   have e3 : (ds.dropWhile fun d => decide (c d < 0)).tail[i] = ds[k + 1 + i]:=by
    have : some ((ds.dropWhile fun d => decide (c d < 0)).tail[i]) = some (ds[k + 1 + i]):=by
     rw [← List.getElem?_eq_getElem,← List.getElem?_eq_getElem]
     conv => rhs; rw [e]
     rw [List.getElem?_append_right (by omega),hk,List.getElem?_tail]
     congr 1; omega
    injection this
   rw [e3]
   rw [← hget,List.getElem?_eq_getElem hkl] at hy
   injection hy with hy
   exact hs k (k + 1 + i) hkl (by omega) (by omega) (by rw [hy]; exact hge y (by rw [← hget,List.getElem?_eq_getElem hkl,hy]))
  cases hq : ds.dropWhile fun d => decide (c d < 0) with
  | nil => simp
  | cons y r =>
   rw [hq] at hall hge
   simp only [List.getElem?_cons_zero]
   by_cases hy : c y = 0
   ·have : p y = true:=(hp y).2 hy
    simp [this,hy]
   ·have hpy : p y = false:=by
     cases hpy : p y with
     | false => rfl
     | true => exact absurd ((hp y).1 hpy) hy
    have hr : r.find? p = none:=by
     rw [List.find?_eq_none]
     intro d hd
     have:=hall y rfl d (by simpa using hd)
     rw [hp]; omega
    simp [hpy,hr,hy]
theorem hasC_some {D : Type} {c : D → Int} {ds : List D} {m : Nat} (h : hasAt c ds m = true) : ∃ hl : m < ds.length,ds[m]? = some ds[m]:=by
 unfold hasAt at h
 cases e : ds[m]? with
 | none => rw [e] at h; cases h
 | some d => obtain ⟨hl,e2⟩:=List.getElem?_eq_some_iff.1 e; exact ⟨hl,by rw [e2]⟩
def runeOf (s : ByteArray) : Int:=if (Lib.decodeGo s).1 = 65533 ∧ (Lib.decodeGo s).2 = 1 then -1 - ((s.data.toList.headD 0).toNat : Int) else ((Lib.decodeGo s).1 : Int)
def restOf (s : ByteArray) : ByteArray:=s.extract (Lib.decodeGo s).2 s.size
def ptF : Nat → ByteArray → List Int
 | 0,_ => []
 | n + 1,s => if s.size = 0 then [] else runeOf s :: ptF n (restOf s)
def ptS (s : ByteArray) : List Int:=ptF s.size s
theorem decN_bound (n b0 b1 b2 b3 : Nat) (hn : 1 ≤ n) (h0 : b0 < 256) : 1 ≤ (Lib.decodeN n b0 b1 b2 b3).2 ∧ (Lib.decodeN n b0 b1 b2 b3).2 ≤ n ∧ (Lib.decodeN n b0 b1 b2 b3).1 ≤ 1114111:=by
 unfold Lib.decodeN
 repeat' split
 all_goals (simp only; omega)
theorem dec_bound {s : ByteArray} (h : 0 < s.size) : 1 ≤ (Lib.decodeGo s).2 ∧ (Lib.decodeGo s).2 ≤ s.size ∧ (Lib.decodeGo s).1 ≤ 1114111:=by
 unfold Lib.decodeGo
 rw [if_neg (by omega),Lib.decode_at]
 exact decN_bound (s.size - 0) _ _ _ _ (by omega) (UInt8.toNat_lt _)
theorem restOf_size {s : ByteArray} (h : 0 < s.size) : (restOf s).size < s.size ∧ (restOf s).size = s.size - (Lib.decodeGo s).2:=by
 have:=dec_bound h
 unfold restOf
 rw [ByteArray.size_extract]
 omega
theorem ptF_more : ∀ (n m : Nat) (s : ByteArray),s.size ≤ n → s.size ≤ m → ptF n s = ptF m s
 | 0,0,s,_,_ => rfl
 | 0,m + 1,s,h,_ => by unfold ptF; rw [if_pos (by omega)]
 | n + 1,0,s,_,h => by unfold ptF; rw [if_pos (by omega)]
 | n + 1,m + 1,s,h1,h2 => by
  unfold ptF
  by_cases h : s.size = 0
  ·rw [if_pos h,if_pos h]
  ·rw [if_neg h,if_neg h]
   have:=(restOf_size (s:=s) (by omega)).1
   rw [ptF_more n m (restOf s) (by omega) (by omega)]
theorem ptS_nil {s : ByteArray} (h : s.size = 0) : ptS s = []:=by
 unfold ptS
 rw [h]
 rfl
theorem ptS_step {s : ByteArray} (h : 0 < s.size) : ptS s = runeOf s :: ptS (restOf s):=by
 obtain ⟨n,hn⟩ : ∃ n,s.size = n + 1:=⟨s.size - 1,by omega⟩
 have h2:=(restOf_size h).1
 unfold ptS
 rw [hn]
 conv => lhs; unfold ptF
 rw [if_neg (by omega),ptF_more n (restOf s).size (restOf s) (by omega) (Nat.le_refl _)]
theorem ptF_len : ∀ (n : Nat) (s : ByteArray),(ptF n s).length ≤ n
 | 0,s => by simp [ptF]
 | n + 1,s => by
  unfold ptF
  split
  ·simp
  ·have:=ptF_len n (restOf s)
   simp only [List.length_cons]
   omega
theorem ptS_len (s : ByteArray) : (ptS s).length ≤ s.size:=ptF_len _ s
theorem runeOf_bound {s : ByteArray} (h : 0 < s.size) : -300 ≤ runeOf s ∧ runeOf s ≤ 1114111:=by
 have:=dec_bound h
 have:=(s.data.toList.headD 0).toNat_lt
 unfold runeOf
 split <;> omega
open Go.RowKit
def lowF (m : MsD) : Int:=if m.how = 1 then 0 else 1
def highF (m : MsD) : Int:=if m.how = 1 then 0 else 20
structure RightM (m : MsD) : Prop where
 name : isKey m.name = true
 how : 1 ≤ m.how ∧ m.how ≤ 3
 far : lowF m ≤ m.far ∧ m.far ≤ highF m
 pts : -1000 ≤ m.pts ∧ m.pts ≤ 1000
open Go.RowKit
structure IG {D : Type} (T k : Nat) (f : D → Nat → Value) (H : Frz) (B : Nat) (v : Value) (ds : List D) (w W : World) : Prop where
 inn : H.In W
 row : Orow W B T k f v ds
 own : ∀ g,v.ownBlock = some g → H g = none
 bel : Below w.heap.size w W
 hB : w.heap.size ≤ B
 le : B ≤ W.heap.size
section
variable {D : Type} {T k : Nat} {f : D → Nat → Value} {H : Frz} {B : Nat} {v v' : Value} {ds ds' : List D} {w W W' : World}
theorem IG.below (h : IG T k f H B v ds w W) (hb : Below W.heap.size W W') : IG T k f H B v ds w W' :=
 ⟨h.inn.below hb,h.row.below hb,h.own,h.bel.trans (hb.mono h.bel.size),h.hB,Nat.le_trans h.le hb.size⟩
theorem IG.app (h : IG T k f H B v ds w W) (o : Orow W' B T k f v' ds') (g1 : W.grownBy W' v.ownBlock) (at1 : v'.ownBlock = v.ownBlock ∨ ∃ g,v'.ownBlock = some g ∧ W.heap.size < g) : IG T k f H B v' ds' w W' :=
 ⟨h.inn.grown' g1 h.own,o,(fun q hq => by
  rcases at1 with e | ⟨g,e,hg⟩
  ·exact h.own q (by rw [← e]; exact hq)
  ·rw [e] at hq; injection hq with hq; exact h.inn.none_ (by omega)),h.bel.grown g1 h.bel.size (fun g hg => Nat.le_trans h.hB (h.row.lt hg).1),h.hB,Nat.le_trans h.le g1.size⟩
theorem IG.put (h : IG T k f H B v ds w W) (o : Obj) : ∃ H',H.Le H' ∧ H' W.heap.size = some o ∧ IG T k f H' B v ds w (W.alloc o):=by
 have h2:=h.below (new1 o)
 refine ⟨H.add W.heap.size o,Frz.le_add (h.inn.none_ (Nat.le_refl _)),Frz.add_at _ _ _,h2.inn.add (heap_at rfl),h2.row,fun g hg => ?_,h2.bel,h2.hB,h2.le⟩
 rw [Frz.add_other (by have:=(h.row.lt hg).2; omega)]
 exact h.own g hg
theorem IG.upd {go capg n : Nat} (h : IG T k f H B (.slice (some ⟨go,0,none⟩) n capg) ds w W) (hn : n = ds.length) {p : Nat} (hp : p < ds.length) {j : Nat} (hj : j < k) (d' : D) {x : Value} (hx : f d' j = x) (ho : ∀ m,m < k → m ≠ j → f d' m = f ds[p] m) :
  W.cell? ⟨go,p * k + j,none⟩ = some (f ds[p] j) ∧ W.frozen? ⟨go,p * k + j,none⟩ = false ∧ IG T k f H B (.slice (some ⟨go,0,none⟩) n capg) (ds.set p d') w (W.setCell ⟨go,p * k + j,none⟩ x):=by
 subst hn
 have hne : ds ≠ []:=by intro e; rw [e] at hp; simp at hp
 obtain ⟨g',cap',rest,hv,hle',hB',hlt,hm',hblk,hr⟩:=h.row.form hne
 injection hv with e1 _ e2
 injection e1 with e1
 injection e1 with e1
 subst e1 e2
 have hnone : H go = none:=h.own go rfl
 refine ⟨hblk.cell p j hp hj,hblk.frozen _,h.inn.setCell (p:=⟨go,p * k + j,none⟩) hnone _,?_,h.own,h.bel.setCell (show w.heap.size ≤ go from Nat.le_trans h.hB hB') _,h.hB,by have:=h.le; simpa [World.setCell] using this⟩
 have:=Orow.of_blk (B:=B) (hblk.upd p j hp hj hx ho) hB' hm' (by simpa using hle') (by simpa using hr)
 simpa using this
end
open Go.RowKit
def fR (z : Int) (_ : Nat) : Value:=.int .i32 z
end Go.Proofs.YtbidhpgjmcedaaaGreatDoor
