/- Texts of this claim, put together: StrP, Cmp, Isort, ConsP, IdP. -/
import Derived.Test.YtcncifmanodabaaGreatDoorGAC
import Derived.Test.YtcncifmanodabaaGreatDoorGAB
import Derived.Lib.Split
namespace Go.Proofs.YtcncifmanodabaaGreatDoor
set_option linter.unusedVariables false
open Go.RowKit
theorem bl_irrefl (a:List UInt8):Op.bytesLess a a = false:=by
 induction a with
 | nil => rfl
 | cons x a ih => simp [Op.bytesLess,ih]
theorem bl_asymm {a b:List UInt8} (h:Op.bytesLess a b = true):Op.bytesLess b a = false:=by
 induction a generalizing b with
 | nil => cases b <;> simp_all [Op.bytesLess]
 | cons x a ih =>
  cases b with
  | nil => simp [Op.bytesLess] at h
  | cons y b =>
   simp only [Op.bytesLess,Bool.or_eq_true,Bool.and_eq_true,decide_eq_true_eq,beq_iff_eq] at h
   rcases h with h | ⟨rfl,h⟩
   ·have h1:¬ y < x:=UInt8.not_lt.2 (UInt8.le_of_lt h)
    have h2:(y == x) = false:=by simp;rintro rfl;exact UInt8.lt_irrefl _ h
    simp [Op.bytesLess,h1,h2]
   ·simp [Op.bytesLess,ih h]
theorem bl_total {a b:List UInt8} (h1:Op.bytesLess a b = false) (h2:Op.bytesLess b a = false):a = b:=by
 induction a generalizing b with
 | nil => cases b <;> simp_all [Op.bytesLess]
 | cons x a ih =>
  cases b with
  | nil => simp [Op.bytesLess] at h2
  | cons y b =>
   simp only [Op.bytesLess,Bool.or_eq_false_iff,Bool.and_eq_false_iff,decide_eq_false_iff_not,beq_eq_false_iff_ne] at h1 h2
   have hxy:x = y:=UInt8.le_antisymm (UInt8.not_lt.1 h2.1) (UInt8.not_lt.1 h1.1)
   subst hxy
   simp at h1 h2
   rw [ih h1 h2]
theorem bl_trans {a b c:List UInt8} (h1:Op.bytesLess a b = true) (h2:Op.bytesLess b c = true):Op.bytesLess a c = true:=by
 induction a generalizing b c with
 | nil =>
  cases b with
  | nil => simp [Op.bytesLess] at h1
  | cons y b => cases c <;> simp_all [Op.bytesLess]
 | cons x a ih =>
  cases b with
  | nil => simp [Op.bytesLess] at h1
  | cons y b =>
   cases c with
   | nil => simp [Op.bytesLess] at h2
   | cons z c =>
    simp only [Op.bytesLess,Bool.or_eq_true,Bool.and_eq_true,decide_eq_true_eq,beq_iff_eq] at h1 h2 ⊢
    rcases h1 with h1 | ⟨rfl,h1⟩
    ·rcases h2 with h2 | ⟨rfl,h2⟩
     ·exact Or.inl (UInt8.lt_trans h1 h2)
     ·exact Or.inl h1
    ·rcases h2 with h2 | ⟨rfl,h2⟩
     ·exact Or.inl h2
     ·exact Or.inr ⟨rfl,ih h1 h2⟩
def cmpS (a b:ByteArray):Int:=if Op.bytesLess a.toList b.toList then -1 else if a.toList == b.toList then 0 else 1
theorem toList_inj {a b:ByteArray} (h:a.toList = b.toList):a = b:=by
 rw [ByteArray.toList_eq,ByteArray.toList_eq] at h
 exact ByteArray.ext (Array.toList_inj.1 h)
theorem cmpS_self (a:ByteArray):cmpS a a = 0:=by simp [cmpS,bl_irrefl]
theorem cmpS_zero {a b:ByteArray} (h:cmpS a b = 0):a = b:=by
 unfold cmpS at h
 split at h
 ·omega
 ·split at h
  ·rename_i h2
   exact toList_inj (by simpa using h2)
  ·omega
theorem cmpS_vals (a b:ByteArray):cmpS a b = -1 ∨ cmpS a b = 0 ∨ cmpS a b = 1:=by
 unfold cmpS
 split
 ·exact Or.inl rfl
 ·split
  ·exact Or.inr (Or.inl rfl)
  ·exact Or.inr (Or.inr rfl)
theorem cmpS_lt {a b:ByteArray}:cmpS a b < 0 ↔ Op.bytesLess a.toList b.toList = true:=by
 unfold cmpS
 split
 ·simp [*]
 ·rename_i h
  split <;> simp [h]
theorem cmpS_swap (a b:ByteArray):cmpS b a = - cmpS a b:=by
 rcases cmpS_vals a b with h | h | h
 ·have h1:=bl_asymm (cmpS_lt.1 (show cmpS a b < 0 by omega))
  have h2:¬ (b.toList == a.toList) = true:=by
   intro e
   have:b = a:=toList_inj (by simpa using e)
   subst this
   rw [cmpS_self] at h
   omega
  unfold cmpS at h ⊢
  rw [if_neg (by simp [h1]),if_neg h2,h]
  rfl
 ·rw [cmpS_zero h,cmpS_self];rfl
 ·have h1:¬ Op.bytesLess a.toList b.toList = true:=by intro e;have:=cmpS_lt.2 e;omega
  have h2:Op.bytesLess b.toList a.toList = true:=by
   cases e:Op.bytesLess b.toList a.toList with
   | true => rfl
   | false =>
    have:=toList_inj (bl_total (by simpa using h1) e)
    subst this
    rw [cmpS_self] at h
    omega
  have:=cmpS_lt.2 h2
  rcases cmpS_vals b a with g | g | g <;> omega
theorem cmpS_trans {a b c:ByteArray} (h1:cmpS a b < 0) (h2:cmpS b c < 0):cmpS a c < 0:=cmpS_lt.2 (bl_trans (cmpS_lt.1 h1) (cmpS_lt.1 h2))
def fS (s:ByteArray) (_:Nat):Value:=.string s
def Ss (H:Frz) (v:Value) (ss:List ByteArray):Prop:=∃ A cap,v = .slice A ss.length cap ∧ ss.length ≤ cap ∧ Rw H A 1 fS ss ∧ (∀ s ∈ ss,s.size ≤ 1000000) ∧ ss.length ≤ 1000000
theorem Ss.le {H H':Frz} {v:Value} {ss:List ByteArray} (h:Ss H v ss) (hl:H.Le H'):Ss H' v ss:=by
 obtain ⟨A,cap,h1,h0,h2,h3⟩:=h
 exact ⟨A,cap,h1,h0,h2.le hl,h3⟩
theorem Ss.nil (H:Frz):Ss H (.slice none 0 0) []:=⟨none,0,rfl,Nat.le_refl _,Rw.nil,by simp,by simp⟩
theorem Ss.at_ {H:Frz} {A:Option Addr} {ss:List ByteArray} (h:Rw H A 1 fS ss) {W:World} (hH:H.In W) {i:Nat} (hi:i < ss.length) :
  ∃ b off,A = some ⟨b,off,none⟩ ∧ b < W.heap.size ∧ W.cell? ⟨b,off + i,none⟩ = some (.string ss[i]):=by
 obtain ⟨b,off,e,hb,hc⟩:=h.at_ hH hi (by omega)
 exact ⟨b,off,e,hb,by simpa [fS] using hc 0 (by omega)⟩
open Go.RowKit
def cmpI (a b:Int):Int:=if a < b then -1 else if a = b then 0 else 1
theorem cmpI_lt {a b:Int}:cmpI a b < 0 ↔ a < b:=by unfold cmpI;split <;> (try split) <;> omega
theorem cmpI_zero {a b:Int}:cmpI a b = 0 ↔ a = b:=by unfold cmpI;split <;> (try split) <;> omega
theorem cmpI_swap (a b:Int):cmpI b a = - cmpI a b:=by unfold cmpI;split <;> (try split) <;> (try split) <;> (try split) <;> omega
def orL:List Int → Int
 | [] => 0
 | x :: l => if x = 0 then orL l else x
set_option maxHeartbeats 400000 in
theorem cmpStr_any (a b:ByteArray) (w:World):Calls Tryz.prog 77 #[.string a,.string b] w fun e w' => e = .returned (.int .i64 (cmpS a b)) ∧ w = w':=by
 cases h1:Op.bytesLess a.toList b.toList with
 | true =>
  have hv:Hid (cmpS a b = -1):=by show _ = _;unfold cmpS;rw [if_pos h1]
  go_enter Tryz.func77,Tryz.ntmps77
  go_wp2
  go_ret
  exact ⟨ret_int hv.out.symm,rfl⟩
 | false =>
  cases h2:(a.toList == b.toList) with
  | true =>
   have hv:Hid (cmpS a b = 0):=by show _ = _;unfold cmpS;rw [if_neg (by simp [h1]),if_pos h2]
   go_enter Tryz.func77,Tryz.ntmps77
   go_wp2
   go_ret
   exact ⟨ret_int hv.out.symm,rfl⟩
  | false =>
   have hv:Hid (cmpS a b = 1):=by show _ = _;unfold cmpS;rw [if_neg (by simp [h1]),if_neg (by simp [h2])]
   go_enter Tryz.func77,Tryz.ntmps77
   go_wp2
   go_ret
   exact ⟨ret_int hv.out.symm,rfl⟩
theorem same_below {w:World} {P:Program} {k:Nat} {args:Array Value} {R:Ending → Prop} (h:Calls P k args w fun e w' => R e ∧ w = w'):Calls P k args w fun e w' => R e ∧ Below w.heap.size w w' :=
 h.mono fun e w' ⟨h1,h2⟩ => ⟨h1,h2 ▸ Below.refl _ _⟩
theorem cmpStr_b (a b:ByteArray) (w:World):Calls Tryz.prog 77 #[.string a,.string b] w fun e w' => e = .returned (.int .i64 (cmpS a b)) ∧ Below w.heap.size w w':=same_below (cmpStr_any a b w)
set_option maxHeartbeats 400000 in
theorem cmpInt_any (a b:Int) (w:World):Calls Tryz.prog 97 #[.int .i64 a,.int .i64 b] w fun e w' => e = .returned (.int .i64 (cmpI a b)) ∧ w = w':=by
 rcases Int.lt_trichotomy a b with h | h | h
 ·have hv:Hid (cmpI a b = -1):=by show _ = _;unfold cmpI;rw [if_pos h]
  go_enter Tryz.func97,Tryz.ntmps97
  go_wp2
  go_ret
  exact ⟨ret_int hv.out.symm,rfl⟩
 ·subst h
  have hv:Hid (cmpI a a = 0):=cmpI_zero.2 rfl
  go_enter Tryz.func97,Tryz.ntmps97
  go_wp2
  go_ret
  exact ⟨ret_int hv.out.symm,rfl⟩
 ·have hv:Hid (cmpI a b = 1):=by show _ = _;unfold cmpI;rw [if_neg (by omega),if_neg (by omega)]
  go_enter Tryz.func97,Tryz.ntmps97
  go_wp2
  go_ret
  exact ⟨ret_int hv.out.symm,rfl⟩
theorem cmpInt_b (a b:Int) (w:World):Calls Tryz.prog 97 #[.int .i64 a,.int .i64 b] w fun e w' => e = .returned (.int .i64 (cmpI a b)) ∧ Below w.heap.size w w':=same_below (cmpInt_any a b w)
theorem orL_drop_zero {zs:List Int} {i:Nat} (h:i < zs.length) (h0:zs[i] = 0):orL (zs.drop i) = orL (zs.drop (i + 1)):=by
 rw [List.drop_eq_getElem_cons h,orL,if_pos h0]
theorem orL_drop_ne {zs:List Int} {i:Nat} (h:i < zs.length) (h0:zs[i] ≠ 0):orL (zs.drop i) = zs[i]:=by
 rw [List.drop_eq_getElem_cons h,orL,if_neg h0]
set_option maxHeartbeats 400000 in
theorem orL_any (A:Option Addr) (cap:Nat) (zs:List Int) (w:World) (hA:Ints w A zs) (hl:zs.length ≤ 1000000) :
  Calls Tryz.prog 96 #[.slice A zs.length cap] w fun e w' => e = .returned (.int .i64 (orL zs)) ∧ w = w':=by
 have HA:=Lib.hid hA
 clear hA
 go_enter Tryz.func96,Tryz.ntmps96
 go_wp2
 go_loop [8] (fun t => ∃ i:Nat,i ≤ zs.length ∧ t = .int .i64 i ∧ Hid (orL zs = orL (zs.drop i))) (fun t => zs.length - (intOf t).toNat)
 case atStart => exact ⟨0,Nat.zero_le _,rfl,rfl⟩
 case round =>
  obtain ⟨i,hi,rfl,ho⟩:=hrel
  by_cases hlt:i < zs.length
  ·obtain ⟨b,off,rfl,hc⟩:=HA.out i hlt
   have h1:=Lib.hid (orL_drop_zero hlt)
   have h2:=Lib.hid (orL_drop_ne hlt)
   generalize zs[i] = z at hc h1 h2
   by_cases hz:z = 0
   ·have h3:=Lib.hid (ho.out.trans (h1.out hz))
    subst hz
    go_wp2
    go_round
    case rel => exact ⟨i + 1,by omega,by go_num,h3⟩
    case measure => simp [intOf];omega
   ·have hz':(z != 0) = true:=by simpa using hz
    have h3:=Lib.hid (ho.out.trans (h2.out hz))
    clear hz
    go_wp2
    go_ret
    exact ⟨ret_int h3.out.symm,rfl⟩
  ·have h3:=Lib.hid (ho.out.trans (show orL (zs.drop i) = 0 by rw [List.drop_of_length_le (by omega)];rfl))
   go_wp2
   go_ret
   exact ⟨ret_int h3.out.symm,rfl⟩
open Go.RowKit
section
variable {D:Type}
def insLast (lt:D → D → Bool) (x:D) (acc:List D):List D:=(acc.reverse.dropWhile (lt x)).reverse ++ x :: (acc.reverse.takeWhile (lt x)).reverse
def isort (lt:D → D → Bool) (ds:List D):List D:=ds.foldl (fun acc x => insLast lt x acc) []
theorem isort_snoc (lt:D → D → Bool) (ds:List D) (x:D):isort lt (ds ++ [x]) = insLast lt x (isort lt ds):=by simp [isort]
theorem takeWhile_all_append {p:D → Bool} {a b:List D} (ha:∀ x ∈ a,p x = true) (hb:b.head?.map p ≠ some true):(a ++ b).takeWhile p = a ∧ (a ++ b).dropWhile p = b:=by
 induction a with
 | nil =>
  cases b with
  | nil => exact ⟨rfl,rfl⟩
  | cons y b =>
   have:p y = false:=by cases h:p y <;> simp_all
   simp [this]
 | cons x a ih =>
  have h1:=ha x List.mem_cons_self
  have h2:=ih fun y hy => ha y (List.mem_cons_of_mem _ hy)
  simp [h1,h2]
theorem insLast_eq {lt:D → D → Bool} {x:D} {P S:List D} (hS:∀ s ∈ S,lt x s = true) (hP:P.getLast?.map (lt x) ≠ some true):insLast lt x (P ++ S) = P ++ x :: S:=by
 have h:=takeWhile_all_append (p:=lt x) (a:=S.reverse) (b:=P.reverse) (by simpa using hS) (by simpa using hP)
 unfold insLast
 rw [List.reverse_append,h.1,h.2]
 simp
theorem insLast_perm (lt:D → D → Bool) (x:D) (acc:List D):(insLast lt x acc).Perm (x :: acc):=by
 unfold insLast
 refine List.perm_middle.trans (List.Perm.cons x ?_)
 rw [← List.reverse_append]
 refine (List.reverse_perm _).trans ?_
 rw [List.takeWhile_append_dropWhile]
 exact List.reverse_perm _
theorem isort_perm (lt:D → D → Bool) (ds:List D):(isort lt ds).Perm ds:=by
 unfold isort
 have:∀ acc:List D,(ds.foldl (fun acc x => insLast lt x acc) acc).Perm (acc ++ ds):=by
  induction ds with
  | nil => intro acc;simp
  | cons x ds ih =>
   intro acc
   rw [List.foldl_cons]
   refine (ih _).trans ?_
   refine (List.Perm.append_right ds (insLast_perm lt x acc)).trans ?_
   rw [List.cons_append]
   exact List.perm_middle.symm
 simpa using this []
theorem isort_length (lt:D → D → Bool) (ds:List D):(isort lt ds).length = ds.length:=(isort_perm lt ds).length_eq
theorem insLast_sorted {lt:D → D → Bool} (hA:∀ a b,lt a b = true → lt b a = false) (hT:∀ a b c,lt b a = false → lt c b = false → lt c a = false) {x:D} {acc:List D} (h:acc.Pairwise fun a b => lt b a = false):(insLast lt x acc).Pairwise fun a b => lt b a = false:=by
 have e:(acc.reverse.dropWhile (lt x)).reverse ++ (acc.reverse.takeWhile (lt x)).reverse = acc:=by
  rw [← List.reverse_append,List.takeWhile_append_dropWhile,List.reverse_reverse]
 have hS:∀ s ∈ (acc.reverse.takeWhile (lt x)).reverse,lt x s = true:=fun s hs => by
  have:s ∈ acc.reverse.takeWhile (lt x):=by simpa using hs
  exact List.all_eq_true.1 List.all_takeWhile _ this
 have hP:∀ y,(acc.reverse.dropWhile (lt x)).head? = some y → lt x y = false:=fun y hy => by
  have:=List.head?_dropWhile_not (lt x) acc.reverse
  rw [hy] at this
  simpa using this
 unfold insLast
 generalize acc.reverse.dropWhile (lt x) = Q at e hP
 generalize acc.reverse.takeWhile (lt x) = S at e hS
 rw [← e] at h
 rw [List.pairwise_append] at h ⊢
 obtain ⟨h1,h2,h3⟩:=h
 refine ⟨h1,List.pairwise_cons.2 ⟨fun s hs => hA _ _ (hS s hs),h2⟩,fun p hp s hs => ?_⟩
 rcases List.mem_cons.1 hs with rfl | hs
 ·cases Q with
  | nil => simp at hp
  | cons y Q =>
   have hy:=hP y rfl
   have hp':p ∈ y :: Q:=List.mem_reverse.1 hp
   rcases List.mem_cons.1 hp' with rfl | hq
   ·exact hy
   ·have h4:lt y p = false:=by
     rw [List.reverse_cons,List.pairwise_append] at h1
     exact h1.2.2 p (by simpa using hq) y (by simp)
    exact hT p y s h4 hy
 ·exact h3 p hp s hs
theorem isort_sorted {lt:D → D → Bool} (hA:∀ a b,lt a b = true → lt b a = false) (hT:∀ a b c,lt b a = false → lt c b = false → lt c a = false) (ds:List D):(isort lt ds).Pairwise fun a b => lt b a = false:=by
 unfold isort
 have:∀ acc:List D,acc.Pairwise (fun a b => lt b a = false) → (ds.foldl (fun acc x => insLast lt x acc) acc).Pairwise fun a b => lt b a = false:=by
  induction ds with
  | nil => intro acc h;exact h
  | cons x ds ih => intro acc h;exact ih _ (insLast_sorted hA hT h)
 exact this [] List.Pairwise.nil
theorem nil_or_snoc (l:List D):l = [] ∨ ∃ L b,l = L ++ [b]:=by
 rcases List.eq_nil_or_concat l with h | ⟨L,b,h⟩
 ·exact Or.inl h
 ·exact Or.inr ⟨L,b,by rw [h,List.concat_eq_append]⟩
def SIn (lt:D → D → Bool) (acc:List D) (x:D) (R:List D) (j:Nat) (ys:List D):Prop :=
 ∃ P S,ys = P ++ x :: (S ++ R) ∧ P ++ S = acc ∧ P.length = j ∧ ∀ s ∈ S,lt x s = true
section
variable {lt:D → D → Bool} {acc R ys:List D} {x:D} {j:Nat}
theorem SIn.start (acc R:List D) (x:D):SIn lt acc x R acc.length (acc ++ x :: R):=⟨acc,[],by simp,by simp,rfl,by simp⟩
theorem SIn.length (h:SIn lt acc x R j ys):ys.length = acc.length + 1 + R.length ∧ j ≤ acc.length:=by
 obtain ⟨P,S,rfl,rfl,rfl,_⟩:=h
 simp;omega
theorem SIn.at_ (h:SIn lt acc x R j ys) (hj:j < ys.length):ys[j] = x:=by
 obtain ⟨P,S,rfl,rfl,rfl,_⟩:=h
 simp
theorem SIn.swap (h:SIn lt acc x R j ys) (hj:0 < j) (hl:j < ys.length) (hlt:lt x (ys[j - 1]'(by omega)) = true):SIn lt acc x R (j - 1) ((ys.set j (ys[j - 1]'(by omega))).set (j - 1) x):=by
 obtain ⟨P,S,rfl,rfl,rfl,hS⟩:=h
 rcases nil_or_snoc P with rfl | ⟨P,y,rfl⟩
 ·simp at hj
 ·have e:((P ++ [y]) ++ x :: (S ++ R))[(P ++ [y]).length - 1]'(by simp) = y:=by simp
  rw [e] at hlt ⊢
  refine ⟨P,y :: S,?_,by simp,by simp,?_⟩
  ·simp
  ·intro s hs
   rcases List.mem_cons.1 hs with rfl | hs
   ·exact hlt
   ·exact hS s hs
theorem SIn.done (h:SIn lt acc x R j ys) (hl:ys.length = acc.length + 1 + R.length) (hlt:∀ (h0:0 < j),lt x (ys[j - 1]'(by have:=h.length;omega)) = false):ys = insLast lt x acc ++ R:=by
 have hn:=h.length
 obtain ⟨P,S,rfl,rfl,rfl,hS⟩:=h
 rw [insLast_eq hS]
 ·simp
 ·rcases nil_or_snoc P with rfl | ⟨P,y,rfl⟩
  ·simp
  ·have:=hlt (by simp)
   have e:((P ++ [y]) ++ x :: (S ++ R))[(P ++ [y]).length - 1]'(by simp) = y:=by simp
   rw [e] at this
   simp [this]
theorem SIn.mem (h:SIn lt acc x R j ys) {d:D} (hd:d ∈ ys):d ∈ acc ∨ d = x ∨ d ∈ R:=by
 obtain ⟨P,S,rfl,rfl,_,_⟩:=h
 simp at hd ⊢
 rcases hd with h | h | h | h <;> simp [h]
end
def KBlk (w:World) (g T k:Nat) (f:D → Nat → Value) (ds:List D) (rest:List Value):Prop:=w.heap[g]? = some (.cells (cellsOf k f ds ++ rest).toArray T (0,0))
def setK (w:World) (g:Nat):Nat → List Value → World
 | _,[] => w
 | o,v :: vs => setK (w.setCell ⟨g,o,none⟩ v) g (o + 1) vs
theorem setK_heap (w:World) (g o:Nat) (vs:List Value) {cs:Array Value} {T:TypeId} (h:w.heap[g]? = some (.cells cs T (0,0))) (hl:o + vs.length ≤ cs.size) :
  (setK w g o vs).heap[g]? = some (.cells (cs.toList.take o ++ vs ++ cs.toList.drop (o + vs.length)).toArray T (0,0)):=by
 induction vs generalizing w o cs with
 | nil => simp [setK,h]
 | cons v vs ih =>
  simp only [List.length_cons] at hl
  have h1:(w.setCell ⟨g,o,none⟩ v).heap[g]? = some (.cells (cs.setIfInBounds o v) T (0,0)):=by simp [World.setCell,Array.getElem?_modify,h]
  have:=ih (w.setCell ⟨g,o,none⟩ v) (o + 1) h1 (by simp;omega)
  simp only [setK]
  rw [this]
  congr 2
  have e1:(cs.setIfInBounds o v).toList = cs.toList.set o v:=by simp
  rw [e1]
  apply congrArg List.toArray
  have e2:(cs.toList.set o v).take (o + 1) = cs.toList.take o ++ [v]:=by
   rw [List.take_set,List.take_succ_eq_append_getElem (by simp;omega),List.set_append_right _ _ (by simp;omega)]
   simp
   rw [show o - min o cs.size = 0 from by omega]
   rfl
  rw [e2,List.drop_set_of_lt (by omega)]
  simp [Nat.add_assoc,Nat.add_comm 1]
theorem setK_grown {a w:World} {g:Nat} (o:Nat) (vs:List Value) (h:a.grownBy w (some g)):a.grownBy (setK w g o vs) (some g):=by
 induction vs generalizing w o with
 | nil => exact h
 | cons v vs ih =>
  exact ih (o + 1) ⟨h.os,h.tape,h.output,by simpa [World.setCell] using h.size,fun k hk hne => (Below.heap_setCell w _ v k (fun e => hne (by rw [e]))).trans (h.block k hk hne)⟩
theorem setK_in {H:Frz} {w:World} {g:Nat} (o:Nat) (vs:List Value) (h:H.In w) (hg:H g = none):H.In (setK w g o vs):=by
 induction vs generalizing w o with
 | nil => exact h
 | cons v vs ih => exact ih (o + 1) (h.setCell (p:=⟨g,o,none⟩) hg v)
section
variable {w w':World} {g T k:Nat} {f:D → Nat → Value} {ds:List D} {rest:List Value}
theorem KBlk.lt (h:KBlk w g T k f ds rest):g < w.heap.size:=lt_of_heap h
theorem KBlk.cell (h:KBlk w g T k f ds rest) (i j:Nat) (hi:i < ds.length) (hj:j < k):w.cell? ⟨g,i * k + j,none⟩ = some (f ds[i] j):=by
 unfold KBlk at h
 have hx:=cellsOf_get k f ds i j hi hj
 have hlt:=(List.getElem?_eq_some_iff.1 hx).1
 simp only [World.cell?,h]
 simp only [Option.isSome_none,Bool.false_eq_true,if_false,List.getElem?_toArray]
 rw [List.getElem?_append_left hlt,hx]
theorem KBlk.frozen (h:KBlk w g T k f ds rest) (i:Nat):w.frozen? ⟨g,i,none⟩ = false:=by
 unfold KBlk at h
 simp [World.frozen?,h]
theorem KBlk.keep (h:KBlk w g T k f ds rest) (hb:Below w.heap.size w w'):KBlk w' g T k f ds rest:=(hb.block g h.lt).trans h
theorem KBlk.drewN (h:KBlk w g T k f ds rest) (n:Nat):KBlk (w.drewN n) g T k f ds rest:=h
theorem cellsOf_split (k:Nat) (f:D → Nat → Value) (a b:List D):cellsOf k f (a ++ b) = cellsOf k f a ++ cellsOf k f b:=by simp [cellsOf]
theorem KBlk.put (h:KBlk w g T k f ds rest) (i:Nat) (hi:i < ds.length) (d:D):KBlk (setK w g (i * k) ((List.range k).map (f d))) g T k f (ds.set i d) rest:=by
 unfold KBlk at h ⊢
 have hl:=cellsOf_len k f ds
 have hik:i * k + k ≤ ds.length * k:=by rw [← Nat.succ_mul];exact Nat.mul_le_mul_right _ hi
 rw [setK_heap w g (i * k) _ h (by simp [hl];omega)]
 congr 3
 have e1:ds.set i d = ds.take i ++ d :: ds.drop (i + 1):=List.set_eq_take_append_cons_drop .. |>.trans (by rw [if_pos hi])
 have l1:(cellsOf k f (ds.take i)).length = i * k:=by rw [cellsOf_len,List.length_take];congr 1;omega
 rw [e1]
 have e3:cellsOf k f ds = cellsOf k f (ds.take i) ++ ((List.range k).map (f ds[i]) ++ cellsOf k f (ds.drop (i + 1))):=by
  have h3:cellsOf k f ds = cellsOf k f (ds.take i ++ ds.drop i):=by rw [List.take_append_drop]
  rw [h3,cellsOf_split]
  congr 1
  rw [List.drop_eq_getElem_cons hi]
  rfl
 have e4:cellsOf k f (ds.take i ++ d :: ds.drop (i + 1)) = cellsOf k f (ds.take i) ++ ((List.range k).map (f d) ++ cellsOf k f (ds.drop (i + 1))):=by
  rw [cellsOf_split]
  simp [cellsOf]
 rw [e3,e4]
 simp only [List.append_assoc]
 rw [List.take_left' l1]
 congr 1
 congr 1
 rw [List.length_map,List.length_range,← List.append_assoc (cellsOf k f (ds.take i)),List.drop_left' (by simp [l1])]
end
end
open Go.RowKit
structure StD where
 no:Int
 at_:Int
 kind:Int
 text:ByteArray
 purp:ByteArray
 region:ByteArray
 ch:Int
 what:Int
def fSt (d:StD):Nat → Value
 | 0 => .int .i64 d.no
 | 1 => .int .i64 d.at_
 | 2 => .int .i64 d.kind
 | 3 => .string d.text
 | 4 => .string d.purp
 | 5 => .string d.region
 | 6 => .int .i64 d.ch
 | _ => .int .i64 d.what
def zeroSt:StD:=⟨0,0,0,⟨#[]⟩,⟨#[]⟩,⟨#[]⟩,0,0⟩
structure TermD where
 region:ByteArray
 ch:Int
 free:Bool
 days:Int
 wait:Int
def fTe (d:TermD):Nat → Value
 | 0 => .string d.region
 | 1 => .int .i64 d.ch
 | 2 => .bool d.free
 | 3 => .int .i64 d.days
 | _ => .int .i64 d.wait
def zeroTe:TermD:=⟨⟨#[]⟩,0,false,0,0⟩
structure PurD where
 name:ByteArray
 adr:Option Addr
 cap:Nat
 terms:List TermD
def fPu (d:PurD):Nat → Value
 | 0 => .string d.name
 | _ => .slice d.adr d.terms.length d.cap
structure AnsD where
 may:Bool
 why:Int
 no:Int
def ansV (a:AnsD):Value:=.agg #[.bool a.may,.int .i64 a.why,.int .i64 a.no]
def eqS (a b:ByteArray):Bool:=a.toList == b.toList
theorem eqS_iff {a b:ByteArray}:eqS a b = true ↔ a = b:=by
 unfold eqS
 rw [beq_iff_eq]
 exact ⟨toList_inj,fun h => by rw [h]⟩
theorem eqS_self (a:ByteArray):eqS a a = true:=eqS_iff.2 rfl
theorem cmpS_le_trans {a b c:ByteArray} (h1:cmpS a b ≤ 0) (h2:cmpS b c < 0):cmpS a c < 0:=by
 rcases Int.lt_or_eq_of_le h1 with h | h
 ·exact cmpS_trans h h2
 ·rw [cmpS_zero h];exact h2
def orI (a b:Int):Int:=if a = 0 then b else a
theorem orL_two (a b:Int):orL [a,b] = orI a b:=by
 unfold orI orL orL orL
 split
 ·split <;> omega
 ·rfl
def fstErr (f:Nat → Int):Nat → Int
 | 0 => 0
 | n + 1 => if fstErr f n = 0 then f n else fstErr f n
theorem fstErr_zero {f:Nat → Int} {n:Nat}:fstErr f n = 0 ↔ ∀ i,i < n → f i = 0:=by
 induction n with
 | zero => simp [fstErr]
 | succ n ih =>
  unfold fstErr
  constructor
  ·intro h
   by_cases e:fstErr f n = 0
   ·rw [if_pos e] at h
    intro i hi
    by_cases c:i = n
    ·rw [c];exact h
    ·exact ih.1 e i (by omega)
   ·rw [if_neg e] at h;exact absurd h e
  ·intro h
   rw [if_pos (ih.2 fun i hi => h i (by omega))]
   exact h n (by omega)
theorem fstErr_bad {f:Nat → Int} {n i:Nat} (hi:i < n) (h0:fstErr f i = 0) (he:f i ≠ 0):fstErr f n = f i:=by
 induction n with
 | zero => omega
 | succ n ih =>
  unfold fstErr
  by_cases c:i = n
  ·subst c;rw [if_pos h0]
  ·rw [ih (by omega),if_neg he]
theorem fstErr_next {f:Nat → Int} {i:Nat} (h0:fstErr f i = 0) (he:f i = 0):fstErr f (i + 1) = 0:=by
 unfold fstErr;rw [if_pos h0];exact he
def chB (n:Int):Bool:=decide (1 ≤ n) && decide (n ≤ 4)
def ofCh (what:Int):Bool:=decide (what = 4) || decide (what = 5)
def teCmp (a b:TermD):Int:=orI (cmpS a.region b.region) (cmpI a.ch b.ch)
def teErr (ts:List TermD) (i:Nat):Int:=match ts[i]? with
 | none => 0
 | some t =>
  if isKey t.region = false then 5 else if chB t.ch = false then 4 else if t.free = true ∧ (t.days ≠ 0 ∨ t.wait ≠ 0) then 3
  else if ¬ (0 ≤ t.days ∧ t.days ≤ 2000 ∧ 0 ≤ t.wait ∧ t.wait ≤ 100000) then 1
  else if 0 < i ∧ 0 ≤ teCmp (ts.getD (i - 1) zeroTe) t then 7 else 0
def tesErr (ts:List TermD):Int:=if 160 < ts.length then 2 else fstErr (teErr ts) ts.length
def puErr (ps:List PurD) (i:Nat):Int:=match ps[i]? with
 | none => 0
 | some p => if isKey p.name = false then 5 else if 0 < i ∧ 0 ≤ cmpS (ps.getD (i - 1) p).name p.name then 7 else tesErr p.terms
def polErr (ps:List PurD):Int:=if ps.length = 0 then 3 else if 30 < ps.length then 2 else fstErr (puErr ps) ps.length
def purF (ps:List PurD) (name:ByteArray):Option PurD:=ps.find? fun p => eqS p.name name
def teF (ts:List TermD) (region:ByteArray) (ch:Int):Option TermD:=ts.find? fun t => eqS t.region region && decide (t.ch = ch)
def termF (ps:List PurD) (purp region:ByteArray) (ch:Int):Option TermD:=match purF ps purp with
 | none => none
 | some p => teF p.terms region ch
def stCmp (a b:StD):Int:=orI (cmpI a.at_ b.at_) (cmpI a.no b.no)
def stLt (a b:StD):Bool:=decide (stCmp a b < 0)
def ownB (kind:Int) (text:ByteArray) (ch:Int) (s:StD):Bool:=(decide (s.kind = kind) && eqS s.text text) && decide (s.ch = ch)
def saidF (ss:List StD) (kind:Int) (text:ByteArray) (ch:Int):List StD:=isort stLt (ss.filter (ownB kind text ch))
def upTo (l:List StD) (at_:Int):List StD:=l.takeWhile fun s => decide (s.at_ ≤ at_)
structure ObjD where
 no:Int
 last:Int
 is:Bool
def objStep (s:ObjD) (x:StD):ObjD :=
 if ofCh x.what = false then s else
 let s1:=if s.last < x.at_ then ⟨0,x.at_,false⟩ else s
 if x.what = 4 ∧ s1.is = false then ⟨x.no,s1.last,true⟩ else s1
def objF (l:List StD):ObjD:=l.foldl objStep ⟨0,-1,false⟩
def wdStep (purp:ByteArray) (w:Option StD) (s:StD):Option StD :=
 if s.what = 3 ∧ eqS s.purp purp = true ∧ (w.isNone = true ∨ (w.getD zeroSt).at_ < s.at_) then some s else w
def wdF (purp:ByteArray) (l:List StD):Option StD:=l.foldl (wdStep purp) none
def grB (purp:ByteArray) (w:Option StD) (s:StD):Bool:=decide (s.what = 1) && eqS s.purp purp && (w.isNone || decide ((w.getD zeroSt).at_ < s.at_))
def grF (purp:ByteArray) (l:List StD):List StD:=l.filter (grB purp (wdF purp l))
def coB (purp:ByteArray) (from_ to_:Int) (s:StD):Bool:=decide (s.what = 2) && eqS s.purp purp && (decide (from_ ≤ s.at_) && decide (s.at_ ≤ to_))
def coF (purp:ByteArray) (from_ to_:Int) (l:List StD):Option StD:=l.find? (coB purp from_ to_)
def stateF (l:List StD) (t:TermD) (g:StD) (at_:Int):Int :=
 if t.days ≠ 0 ∧ g.at_ + t.days * 1440 ≤ at_ then 7 else if t.wait = 0 then 2 else if (coF g.purp g.at_ (g.at_ + t.wait) l).isSome = true then 2
 else if at_ ≤ g.at_ + t.wait then 8 else 9
def rankF (why:Int):Int:=if why = 2 then 0 else if why = 8 then 1 else if why = 9 then 2 else if why = 7 then 3 else -1
structure BestD where
 why:Int
 at_:Int
 no:Int
def bestStep (l:List StD) (t:TermD) (at_:Int) (b:BestD) (g:StD):BestD :=
 if b.why = 0 ∨ rankF (stateF l t g at_) < rankF b.why ∨ (stateF l t g at_ = b.why ∧ b.at_ < g.at_) then ⟨stateF l t g at_,g.at_,g.no⟩ else b
def bestF (l:List StD) (t:TermD) (at_:Int) (gs:List StD):BestD:=gs.foldl (bestStep l t at_) ⟨0,0,0⟩
def allowF (l:List StD) (t:TermD) (purp:ByteArray) (at_:Int):AnsD :=
 if (wdF purp l).isSome = true ∧ (grF purp l).length = 0 then ⟨false,5,((wdF purp l).getD zeroSt).no⟩
 else if t.free = true then ⟨true,1,0⟩
 else if (grF purp l).length = 0 then ⟨false,4,0⟩
 else ⟨decide ((bestF l t at_ (grF purp l)).why = 2),(bestF l t at_ (grF purp l)).why,(bestF l t at_ (grF purp l)).no⟩
def answerF (t:Option TermD) (purp:ByteArray) (said:List StD) (at_:Int):AnsD :=
 match t with
 | none => ⟨false,3,0⟩
 | some t => if (objF (upTo said at_)).is = true then ⟨false,6,(objF (upTo said at_)).no⟩ else allowF (upTo said at_) t purp at_
structure QueD where
 kind:Int
 text:ByteArray
 purp:ByteArray
 region:ByteArray
 ch:Int
 at_:Int
def askF (ps:List PurD) (ss:List StD) (kind:Int) (text purp region:ByteArray) (ch at_:Int):AnsD:=answerF (termF ps purp region ch) purp (saidF ss kind text ch) at_
def stErr (idE:Int → ByteArray → Int) (ps:List PurD) (ss:List StD) (i:Nat):Int:=match ss[i]? with
 | none => 0
 | some s =>
  if ¬ (1 ≤ s.no ∧ s.no ≤ 1000000) then 1 else if 0 < i ∧ s.no ≤ (ss.getD (i - 1) s).no then 7 else if ¬ (0 ≤ s.at_ ∧ s.at_ ≤ 4321439) then 1
  else if idE s.kind s.text ≠ 0 then idE s.kind s.text
  else if ¬ (chB s.ch = true ∧ 1 ≤ s.what ∧ s.what ≤ 5) then 4
  else if ofCh s.what = true ∧ ¬ s.purp.size = 0 then 3 else if ofCh s.what = false ∧ (purF ps s.purp).isNone = true then 8
  else if isKey s.region = false then 5 else 0
def sayErr (idE:Int → ByteArray → Int) (ps:List PurD) (ss:List StD):Int :=
 if polErr ps ≠ 0 then polErr ps else if 3000 < ss.length then 2 else fstErr (stErr idE ps ss) ss.length
def queErr (ps:List PurD) (purp region:ByteArray) (ch at_:Int):Int :=
 if (purF ps purp).isNone = true then 8 else if isKey region = false then 5 else if chB ch = false then 4 else if ¬ (0 ≤ at_ ∧ at_ ≤ 4321439) then 1 else 0
theorem stLt_iff {a b:StD}:stLt a b = true ↔ a.at_ < b.at_ ∨ (a.at_ = b.at_ ∧ a.no < b.no):=by
 unfold stLt stCmp orI
 rw [decide_eq_true_iff]
 by_cases h:cmpI a.at_ b.at_ = 0
 ·rw [if_pos h,cmpI_lt]
  have:=cmpI_zero.1 h
  omega
 ·rw [if_neg h,cmpI_lt]
  have:¬ a.at_ = b.at_:=fun e => h (cmpI_zero.2 e)
  omega
theorem stLt_false {a b:StD}:stLt a b = false ↔ b.at_ < a.at_ ∨ (a.at_ = b.at_ ∧ b.no ≤ a.no):=by
 rw [← Bool.not_eq_true,stLt_iff];omega
theorem stLt_asymm (a b:StD) (h:stLt a b = true):stLt b a = false:=by
 rw [stLt_iff] at h;rw [stLt_false];omega
theorem stLt_trans (a b c:StD) (h1:stLt b a = false) (h2:stLt c b = false):stLt c a = false:=by
 rw [stLt_false] at *;omega
theorem saidF_sorted (ss:List StD) (kind:Int) (text:ByteArray) (ch:Int):(saidF ss kind text ch).Pairwise fun a b => stLt b a = false:=isort_sorted stLt_asymm stLt_trans _
theorem saidF_at (ss:List StD) (kind:Int) (text:ByteArray) (ch:Int):(saidF ss kind text ch).Pairwise fun a b => a.at_ ≤ b.at_:=(saidF_sorted ss kind text ch).imp fun h => by rw [stLt_false] at h;omega
theorem upTo_filter {l:List StD} (h:l.Pairwise fun a b => a.at_ ≤ b.at_) (at_:Int):upTo l at_ = l.filter fun s => decide (s.at_ ≤ at_):=by
 unfold upTo
 induction l with
 | nil => rfl
 | cons x l ih =>
  rw [List.pairwise_cons] at h
  by_cases hx:x.at_ ≤ at_
  ·simp [hx,ih h.2]
  ·have:l.filter (fun s => decide (s.at_ ≤ at_)) = []:=by
    rw [List.filter_eq_nil_iff]
    intro y hy
    have:=h.1 y hy
    simp;omega
   simp [hx,this]
open Go.RowKit
def capB (c:UInt8):Bool:=decide ((65:Int) ≤ c.toNat) && decide ((c.toNat:Int) ≤ 90)
def labC (c:UInt8):Bool:=smallB c || digitB c || ((c.toNat:Int) == 45)
def mailC (c:UInt8):Bool:=smallB c || digitB c || ((c.toNat:Int) == 46) || ((c.toNat:Int) == 45) || ((c.toNat:Int) == 95)
def memC (c:UInt8):Bool:=digitB c || capB c
def devC (c:UInt8):Bool:=digitB c || (decide ((97:Int) ≤ c.toNat) && decide ((c.toNat:Int) ≤ 102))
def byteAt (s:ByteArray) (i:Nat):Int:=((s.data.toList.getD i 0).toNat:Int)
def labelF (s:ByteArray):Bool :=
 if ¬ (1 ≤ s.size ∧ s.size ≤ 30) then false else if byteAt s 0 = 45 then false else if byteAt s (s.size - 1) = 45 then false else allB labC s
def dotB:ByteArray:=⟨#[46]⟩
def localF (s:ByteArray):ByteArray:=⟨(Lib.cut s.data.toList [64]).1.toArray⟩
def domainF (s:ByteArray):ByteArray:=⟨(Lib.cut s.data.toList [64]).2.1.toArray⟩
def labelsF (s:ByteArray):List ByteArray:=Lib.splitB dotB 0 (Lib.countB s dotB) s
def mailF (s:ByteArray):Bool :=
 if (Lib.cut s.data.toList [64]).2.2 = false then false else if 80 < s.size then false else if ¬ (1 ≤ (localF s).size ∧ (localF s).size ≤ 64) then false
 else if byteAt (localF s) 0 = 46 then false else if byteAt (localF s) ((localF s).size - 1) = 46 then false else if Lib.contains (localF s).data.toList [46,46] = true then false
 else if allB mailC (localF s) = false then false else if (labelsF (domainF s)).all labelF = false then false else decide (2 ≤ (labelsF (domainF s)).length)
def phoneF (s:ByteArray):Bool :=
 if Lib.hasPrefix s.data.toList [43] = false then false else if ¬ (8 ≤ s.size ∧ s.size ≤ 16) then false else if allB digitB (s.extract 1 s.size) = false then false else decide (byteAt s 1 ≠ 48)
def memberF (s:ByteArray):Bool:=decide (4 ≤ s.size ∧ s.size ≤ 20) && allB memC s
def deviceF (s:ByteArray):Bool:=decide (s.size = 32) && allB devC s
def signs:List UInt8:=[48,49,50,51,52,53,54,55,56,57,65,66,67,68,69,70,71,72,73,74,75,76,77,78,79,80,81,82,83,84,85,86,87,88,89,90]
def signSum (l:List UInt8):Nat → Int × Int
 | 0 => (0,2)
 | n + 1 => ((signSum l n).1 + (signSum l n).2 * Lib.indexByte signs (l.getD (l.length - 1 - n) 0) / 36 + (signSum l n).2 * Lib.indexByte signs (l.getD (l.length - 1 - n) 0) % 36,3 - (signSum l n).2)
def signF (s:ByteArray):Int:=((signs.getD ((36 - (signSum s.data.toList s.size).1 % 36) % 36).toNat 0).toNat:Int)
def idErr (kind:Int) (s:ByteArray):Int :=
 if kind = 1 then (if mailF s = true then 0 else 3) else if kind = 2 then (if phoneF s = true then 0 else 3)
 else if kind = 3 then (if memberF s = false then 3 else if signF (s.extract 0 (s.size - 1)) ≠ byteAt s (s.size - 1) then 15 else 0)
 else if kind = 4 then (if deviceF s = true then 0 else 3) else 4
def poolL:List (Int × List UInt8):=[(1,[97,64,98,46,100,101]),(1,[97,110,110,46,98,64,120,45,121,46,111,114,103]),(1,[98,111,98,95,49,64,98,46,100,101]),(1,[122,45,64,48,46,97]),(2,[43,52,57,51,48,49,50,51,52,53,54]),(2,[43,49,53,53,53,48,48,48,49,49,49]),(3,[65,66,49,51]),(3,[48,48,48,48,48,48,48,48,48,48,48,48,48,48,48,48,48,48,48,48]),(4,[48,49,50,51,52,53,54,55,56,57,97,98,99,100,101,102,48,49,50,51,52,53,54,55,56,57,97,98,99,100,101,102]),(4,[102,102,102,102,102,102,102,102,102,102,102,102,102,102,102,102,102,102,102,102,102,102,102,102,102,102,102,102,102,102,102,102])]
theorem pool_right:poolL.all (fun x => idErr x.1 ⟨x.2.toArray⟩ == 0) = true:=by decide +kernel
theorem pool_ok (k:Nat) (h:k < poolL.length):idErr poolL[k].1 ⟨poolL[k].2.toArray⟩ = 0 ∧ (⟨poolL[k].2.toArray⟩:ByteArray).size ≤ 1000:=by
 constructor
 ·have:=List.all_eq_true.1 pool_right _ (List.getElem_mem h)
  simpa using this
 ·have:∀ x ∈ poolL,x.2.length ≤ 1000:=by decide
  exact this _ (List.getElem_mem h)
end Go.Proofs.YtcncifmanodabaaGreatDoor
