/- Texts of this claim, put together: WishP, OrdI, Ord, OrdPI, OrdP, CompP, MergeP. -/
import Derived.Test.YtcncifmanodabaaGreatDoorGAR
import Derived.Test.YtcncifmanodabaaGreatDoorGAE
import Derived.Test.YtcncifmanodabaaGreatDoorGAC
import Derived.Test.YtcncifmanodabaaGreatDoorGAB
import Derived.Sort.Grow
import Derived.Test.YtcncifmanodabaaGreatDoorGAM
namespace Go.Proofs.YtcncifmanodabaaGreatDoor
set_option linter.unusedVariables false
open Go.RowKit
structure OI (l:List StD) (s:ObjD):Prop where
 top:∀ x ∈ l,ofCh x.what = true → x.at_ ≤ s.last
 hit:(s.last = -1 ∧ ∀ x ∈ l,ofCh x.what = false) ∨ ∃ x ∈ l,ofCh x.what = true ∧ x.at_ = s.last
 is:s.is = true ↔ ∃ x ∈ l,x.what = 4 ∧ x.at_ = s.last
theorem ofCh_four:ofCh 4 = true:=by decide
theorem OI.step {l:List StD} {s:ObjD} (h:OI l s) {x:StD} (hx:∀ y ∈ l,y.at_ ≤ x.at_) (h0:0 ≤ x.at_):OI (l ++ [x]) (objStep s x):=by
 unfold objStep
 by_cases c:ofCh x.what = false
 ·rw [if_pos c]
  refine ⟨fun y hy hc => ?_,?_,?_⟩
  ·rcases List.mem_append.1 hy with hy | hy
   ·exact h.top y hy hc
   ·simp at hy;subst hy;rw [c] at hc;cases hc
  ·rcases h.hit with ⟨e,ha⟩ | ⟨y,hy,h1,h2⟩
   ·refine Or.inl ⟨e,fun y hy => ?_⟩
    rcases List.mem_append.1 hy with hy | hy
    ·exact ha y hy
    ·simp at hy;subst hy;exact c
   ·exact Or.inr ⟨y,List.mem_append_left _ hy,h1,h2⟩
  ·rw [h.is]
   constructor
   ·rintro ⟨y,hy,h1⟩;exact ⟨y,List.mem_append_left _ hy,h1⟩
   ·rintro ⟨y,hy,h1,h2⟩
    rcases List.mem_append.1 hy with hy | hy
    ·exact ⟨y,hy,h1,h2⟩
    ·simp at hy;subst hy;rw [h1,ofCh_four] at c;cases c
 ·have c':ofCh x.what = true:=by simpa using c
  rw [if_neg c]
  have hle:s.last ≤ x.at_:=by
   rcases h.hit with ⟨e,_⟩ | ⟨y,hy,_,e⟩
   ·omega
   ·have:=hx y hy;omega
  by_cases c2:s.last < x.at_
  ·simp only [if_pos c2]
   have hlt:∀ y ∈ l,ofCh y.what = true → y.at_ < x.at_:=fun y hy hc => by have:=h.top y hy hc;omega
   by_cases c3:x.what = 4
   ·rw [if_pos ⟨c3,by simp⟩]
    refine ⟨fun y hy hc => ?_,Or.inr ⟨x,by simp,c',rfl⟩,?_⟩
    ·show y.at_ ≤ x.at_
     rcases List.mem_append.1 hy with hy | hy
     ·exact hx y hy
     ·simp at hy;subst hy;omega
    ·exact ⟨fun _ => ⟨x,by simp,c3,rfl⟩,fun _ => rfl⟩
   ·rw [if_neg (fun k => c3 k.1)]
    refine ⟨fun y hy hc => ?_,Or.inr ⟨x,by simp,c',rfl⟩,?_⟩
    ·show y.at_ ≤ x.at_
     rcases List.mem_append.1 hy with hy | hy
     ·exact hx y hy
     ·simp at hy;subst hy;omega
    ·constructor
     ·intro k;cases k
     ·rintro ⟨y,hy,h1,h2⟩
      have h2':y.at_ = x.at_:=h2
      rcases List.mem_append.1 hy with hy | hy
      ·have:=hlt y hy (by rw [h1];exact ofCh_four);omega
      ·simp at hy;subst hy;exact absurd h1 c3
  ·have he:s.last = x.at_:=by omega
   simp only [if_neg c2]
   by_cases c3:x.what = 4 ∧ s.is = false
   ·rw [if_pos c3]
    refine ⟨fun y hy hc => ?_,Or.inr ⟨x,by simp,c',he.symm⟩,?_⟩
    ·show y.at_ ≤ s.last
     rcases List.mem_append.1 hy with hy | hy
     ·exact h.top y hy hc
     ·simp at hy;subst hy;omega
    ·exact ⟨fun _ => ⟨x,by simp,c3.1,he.symm⟩,fun _ => rfl⟩
   ·rw [if_neg c3]
    refine ⟨fun y hy hc => ?_,Or.inr ⟨x,by simp,c',he.symm⟩,?_⟩
    ·rcases List.mem_append.1 hy with hy | hy
     ·exact h.top y hy hc
     ·simp at hy;subst hy;omega
    ·constructor
     ·intro k
      obtain ⟨y,hy,h1⟩:=h.is.1 k
      exact ⟨y,List.mem_append_left _ hy,h1⟩
     ·rintro ⟨y,hy,h1,h2⟩
      rcases List.mem_append.1 hy with hy | hy
      ·exact h.is.2 ⟨y,hy,h1,h2⟩
      ·simp at hy;subst hy
       cases e:s.is with
       | true => rfl
       | false => exact absurd ⟨h1,e⟩ c3
theorem obj_inv {l:List StD} (h:l.Pairwise fun a b => a.at_ ≤ b.at_) (h0:∀ s ∈ l,0 ≤ s.at_):OI l (objF l):=by
 have:∀ n,n ≤ l.length → OI (l.take n) ((l.take n).foldl objStep ⟨0,-1,false⟩):=by
  intro n
  induction n with
  | zero => intro _;exact ⟨fun x hx => by simp at hx,Or.inl ⟨rfl,fun x hx => by simp at hx⟩,⟨(fun k => by cases k),(fun ⟨x,hx,_⟩ => by simp at hx)⟩⟩
  | succ n ih =>
   intro hn
   have hlt:n < l.length:=by omega
   rw [List.take_succ_eq_append_getElem hlt,List.foldl_append]
   refine (ih (by omega)).step (fun y hy => ?_) (h0 _ (List.getElem_mem hlt))
   obtain ⟨i,hi,rfl⟩:=List.mem_iff_getElem.1 hy
   simp at hi
   rw [List.getElem_take]
   exact List.pairwise_iff_getElem.1 h i n (by omega) hlt (by omega)
 have h2:=this l.length (Nat.le_refl _)
 rwa [List.take_length] at h2
theorem obj_is {l:List StD} (h:l.Pairwise fun a b => a.at_ ≤ b.at_) (h0:∀ s ∈ l,0 ≤ s.at_):(objF l).is = true ↔ ∃ x ∈ l,x.what = 4 ∧ ∀ y ∈ l,ofCh y.what = true → y.at_ ≤ x.at_:=by
 have hi:=obj_inv h h0
 rw [hi.is]
 constructor
 ·rintro ⟨x,hx,h1,h2⟩
  exact ⟨x,hx,h1,fun y hy hc => by have:=hi.top y hy hc;omega⟩
 ·rintro ⟨x,hx,h1,h2⟩
  refine ⟨x,hx,h1,?_⟩
  have h3:=hi.top x hx (by rw [h1];exact ofCh_four)
  rcases hi.hit with ⟨e,ha⟩ | ⟨y,hy,hc,e⟩
  ·have:=ha x hx
   rw [h1,ofCh_four] at this
   cases this
  ·have:=h2 y hy hc
   omega
theorem wd_inv (purp:ByteArray):∀ (l:List StD) (w:Option StD),(∀ x ∈ l,x.what = 3 → eqS x.purp purp = true → (l.foldl (wdStep purp) w).isSome = true ∧ ∀ v,l.foldl (wdStep purp) w = some v → x.at_ ≤ v.at_) ∧ (∀ u,w = some u → ∃ v,l.foldl (wdStep purp) w = some v ∧ u.at_ ≤ v.at_)
 | [],w => ⟨(fun x hx => by cases hx),(fun u hu => ⟨u,hu,Int.le_refl _⟩)⟩
 | y :: l,w => by
  rw [List.foldl_cons]
  obtain ⟨h1,h2⟩:=wd_inv purp l (wdStep purp w y)
  have hw:∀ u,w = some u → ∃ v,wdStep purp w y = some v ∧ u.at_ ≤ v.at_:=by
   intro u hu
   subst hu
   unfold wdStep
   split
   ·rename_i c
    rcases c.2.2 with k | k
    ·cases k
    ·exact ⟨y,rfl,by simp at k;omega⟩
   ·exact ⟨u,rfl,Int.le_refl _⟩
  have hy:y.what = 3 → eqS y.purp purp = true → ∃ v,wdStep purp w y = some v ∧ y.at_ ≤ v.at_:=by
   intro a b
   unfold wdStep
   split
   ·exact ⟨y,rfl,Int.le_refl _⟩
   ·rename_i c
    cases w with
    | none => exact absurd ⟨a,b,Or.inl rfl⟩ c
    | some u =>
     refine ⟨u,rfl,?_⟩
     by_cases k:u.at_ < y.at_
     ·exact absurd ⟨a,b,Or.inr k⟩ c
     ·omega
  refine ⟨fun x hx a b => ?_,fun u hu => ?_⟩
  ·rcases List.mem_cons.1 hx with rfl | hx
   ·obtain ⟨v,e,hle⟩:=hy a b
    obtain ⟨v',e',hle'⟩:=h2 v e
    refine ⟨by rw [e'];rfl,fun v2 hv2 => ?_⟩
    rw [e'] at hv2
    injection hv2 with hv2
    subst hv2
    omega
   ·exact h1 x hx a b
  ·obtain ⟨v,e,hle⟩:=hw u hu
   obtain ⟨v',e',hle'⟩:=h2 v e
   exact ⟨v',e',by omega⟩
theorem wd_none {purp:ByteArray} {l:List StD}:wdF purp l = none ↔ ∀ x ∈ l,x.what = 3 → eqS x.purp purp = false:=by
 constructor
 ·intro h x hx a
  cases e:eqS x.purp purp with
  | false => rfl
  | true =>
   have:=((wd_inv purp l none).1 x hx a e).1
   unfold wdF at h
   rw [h] at this
   cases this
 ·intro h
  cases e:wdF purp l with
  | none => rfl
  | some v =>
   rcases wd_from purp l none v e with c | ⟨h1,h2,h3⟩
   ·cases c
   ·rw [h v h1 h2] at h3;cases h3
theorem gr_mem {purp:ByteArray} {l:List StD} {g:StD}:g ∈ grF purp l ↔ g ∈ l ∧ g.what = 1 ∧ eqS g.purp purp = true ∧ ∀ x ∈ l,x.what = 3 → eqS x.purp purp = true → x.at_ < g.at_:=by
 unfold grF
 rw [List.mem_filter]
 have hg:grB purp (wdF purp l) g = true ↔ (g.what = 1 ∧ eqS g.purp purp = true) ∧ ((wdF purp l).isNone = true ∨ ((wdF purp l).getD zeroSt).at_ < g.at_):=by
  unfold grB
  simp
 rw [hg]
 constructor
 ·rintro ⟨h1,⟨h2,h3⟩,h4⟩
  refine ⟨h1,h2,h3,fun x hx a b => ?_⟩
  obtain ⟨k1,k2⟩:=(wd_inv purp l none).1 x hx a b
  obtain ⟨v,hv⟩:=Option.isSome_iff_exists.1 k1
  have hv':wdF purp l = some v:=hv
  rw [hv'] at h4
  have:=k2 v hv
  rcases h4 with c | c
  ·cases c
  ·simp at c;omega
 ·rintro ⟨h1,h2,h3,h4⟩
  refine ⟨h1,⟨h2,h3⟩,?_⟩
  cases e:wdF purp l with
  | none => exact Or.inl rfl
  | some v =>
   rcases wd_from purp l none v e with c | ⟨k1,k2,k3⟩
   ·cases c
   ·exact Or.inr (h4 v k1 k2 k3)
theorem state_vals (l:List StD) (t:TermD) (g:StD) (at_:Int):stateF l t g at_ = 2 ∨ stateF l t g at_ = 7 ∨ stateF l t g at_ = 8 ∨ stateF l t g at_ = 9:=by
 unfold stateF
 split
 ·simp
 ·split
  ·simp
  ·split
   ·simp
   ·split <;> simp
theorem rank_inj {a b:Int} (ha:a = 2 ∨ a = 7 ∨ a = 8 ∨ a = 9) (hb:b = 2 ∨ b = 7 ∨ b = 8 ∨ b = 9) (h:rankF a = rankF b):a = b:=by
 rcases ha with rfl | rfl | rfl | rfl <;> rcases hb with rfl | rfl | rfl | rfl <;> first | rfl | (simp [rankF] at h)
theorem best_min (l:List StD) (t:TermD) (at_:Int):∀ (gs:List StD) (b:BestD),b.why ≠ 0 → rankF (gs.foldl (bestStep l t at_) b).why ≤ rankF b.why ∧ ∀ g ∈ gs,rankF (gs.foldl (bestStep l t at_) b).why ≤ rankF (stateF l t g at_)
 | [],b,_ => ⟨Int.le_refl _,(fun g hg => by cases hg)⟩
 | g :: gs,b,hb => by
  rw [List.foldl_cons]
  have hs:=state_vals l t g at_
  have key:(bestStep l t at_ b g).why ≠ 0 ∧ rankF (bestStep l t at_ b g).why ≤ rankF b.why ∧ rankF (bestStep l t at_ b g).why ≤ rankF (stateF l t g at_):=by
   unfold bestStep
   split
   ·rename_i c
    show stateF l t g at_ ≠ 0 ∧ rankF (stateF l t g at_) ≤ rankF b.why ∧ rankF (stateF l t g at_) ≤ rankF (stateF l t g at_)
    refine ⟨by omega,?_,Int.le_refl _⟩
    rcases c with c | c | c
    ·exact absurd c hb
    ·omega
    ·rw [c.1];exact Int.le_refl _
   ·rename_i c
    refine ⟨hb,Int.le_refl _,?_⟩
    have:¬ rankF (stateF l t g at_) < rankF b.why:=fun k => c (Or.inr (Or.inl k))
    omega
  obtain ⟨h1,h2⟩:=best_min l t at_ gs _ key.1
  refine ⟨by omega,fun x hx => ?_⟩
  rcases List.mem_cons.1 hx with rfl | hx
  ·omega
  ·exact h2 x hx
theorem best_why {l l':List StD} {t:TermD} {at_:Int} {gs gs':List StD} (h:gs ≠ []) (h':gs' ≠ []) (h1:∀ g ∈ gs,∃ g' ∈ gs',stateF l' t g' at_ = stateF l t g at_) (h2:∀ g' ∈ gs',∃ g ∈ gs,stateF l t g at_ = stateF l' t g' at_):(bestF l t at_ gs).why = (bestF l' t at_ gs').why:=by
 have mn:∀ (l:List StD) (gs:List StD),gs ≠ [] → ∀ g ∈ gs,rankF (bestF l t at_ gs).why ≤ rankF (stateF l t g at_):=by
  intro l gs hne g hg
  cases gs with
  | nil => exact absurd rfl hne
  | cons x gs =>
   unfold bestF
   rw [List.foldl_cons]
   have e:bestStep l t at_ ⟨0,0,0⟩ x = ⟨stateF l t x at_,x.at_,x.no⟩:=by unfold bestStep;rw [if_pos (Or.inl rfl)]
   rw [e]
   have hs:=state_vals l t x at_
   have:=best_min l t at_ gs ⟨stateF l t x at_,x.at_,x.no⟩ (by show stateF l t x at_ ≠ 0;omega)
   rcases List.mem_cons.1 hg with rfl | hg
   ·exact this.1
   ·exact this.2 g hg
 obtain ⟨g,hg,_,e⟩:=best_some (l:=l) (t:=t) (at_:=at_) h
 obtain ⟨g',hg',_,e'⟩:=best_some (l:=l') (t:=t) (at_:=at_) h'
 obtain ⟨k',hk',ek'⟩:=h1 g hg
 obtain ⟨k,hk,ek⟩:=h2 g' hg'
 have m1:=mn l' gs' h' k' hk'
 have m2:=mn l gs h k hk
 refine rank_inj (by rw [e];exact state_vals _ _ _ _) (by rw [e'];exact state_vals _ _ _ _) ?_
 rw [ek',← e] at m1
 rw [ek,← e'] at m2
 omega
def SameB (s s':StD):Prop:=s.at_ = s'.at_ ∧ s.what = s'.what ∧ s.purp = s'.purp
def Cov (l l':List StD):Prop:=∀ s ∈ l,∃ s' ∈ l',SameB s s'
theorem Cov.filter {l l':List StD} (h:Cov l l') (at_:Int):Cov (l.filter fun s => decide (s.at_ ≤ at_)) (l'.filter fun s => decide (s.at_ ≤ at_)):=by
 intro s hs
 obtain ⟨h1,h2⟩:=List.mem_filter.1 hs
 obtain ⟨s',h3,h4⟩:=h s h1
 refine ⟨s',List.mem_filter.2 ⟨h3,?_⟩,h4⟩
 have:=h4.1
 simp at h2 ⊢
 omega
theorem Cov.obj {l l':List StD} (h:Cov l l') (h':Cov l' l) (hs:l.Pairwise fun a b => a.at_ ≤ b.at_) (hs':l'.Pairwise fun a b => a.at_ ≤ b.at_) (h0:∀ s ∈ l,0 ≤ s.at_) (h0':∀ s ∈ l',0 ≤ s.at_) (k:(objF l).is = true):(objF l').is = true:=by
 obtain ⟨x,hx,h1,h2⟩:=(obj_is hs h0).1 k
 obtain ⟨x',hx',e1,e2,e3⟩:=h x hx
 refine (obj_is hs' h0').2 ⟨x',hx',by omega,fun y hy hc => ?_⟩
 obtain ⟨y',hy',f1,f2,f3⟩:=h' y hy
 have:=h2 y' hy' (by rw [← f2];exact hc)
 omega
theorem Cov.wd {l l':List StD} (h:Cov l l') {purp:ByteArray} (k:wdF purp l' = none):wdF purp l = none:=by
 rw [wd_none] at k ⊢
 intro x hx a
 obtain ⟨x',hx',e1,e2,e3⟩:=h x hx
 rw [e3]
 exact k x' hx' (by omega)
theorem Cov.gr {l l':List StD} (h:Cov l l') (h':Cov l' l) {purp:ByteArray}:Cov (grF purp l) (grF purp l'):=by
 intro g hg
 obtain ⟨h1,h2,h3,h4⟩:=gr_mem.1 hg
 obtain ⟨g',hg',e1,e2,e3⟩:=h g h1
 refine ⟨g',gr_mem.2 ⟨hg',by omega,by rw [← e3];exact h3,fun x hx a b => ?_⟩,e1,e2,e3⟩
 obtain ⟨x',hx',f1,f2,f3⟩:=h' x hx
 have:=h4 x' hx' (by omega) (by rw [← f3];exact b)
 omega
theorem Cov.co {l l':List StD} (h:Cov l l') {purp:ByteArray} {a b:Int} (k:(coF purp a b l).isSome = true):(coF purp a b l').isSome = true:=by
 unfold coF at k ⊢
 rw [List.find?_isSome] at k ⊢
 obtain ⟨x,hx,hp⟩:=k
 obtain ⟨x',hx',e1,e2,e3⟩:=h x hx
 refine ⟨x',hx',?_⟩
 unfold coB at hp ⊢
 rw [← e1,← e2,← e3]
 exact hp
theorem Cov.state {l l':List StD} (h:Cov l l') (h':Cov l' l) (t:TermD) {g g':StD} (e:SameB g g') (at_:Int):stateF l' t g' at_ = stateF l t g at_:=by
 obtain ⟨e1,e2,e3⟩:=e
 have hc:(coF g'.purp g'.at_ (g'.at_ + t.wait) l').isSome = (coF g.purp g.at_ (g.at_ + t.wait) l).isSome:=by
  rw [← e1,← e3,Bool.eq_iff_iff]
  exact ⟨fun k => h'.co k,fun k => h.co k⟩
 unfold stateF
 rw [hc,← e1]
theorem SameB.symm {a b:StD} (h:SameB a b):SameB b a:=⟨h.1.symm,h.2.1.symm,h.2.2.symm⟩
theorem answer_set {l l':List StD} (h:Cov l l') (h':Cov l' l) (hs:l.Pairwise fun a b => a.at_ ≤ b.at_) (hs':l'.Pairwise fun a b => a.at_ ≤ b.at_) (h0:∀ s ∈ l,0 ≤ s.at_) (h0':∀ s ∈ l',0 ≤ s.at_) (o:Option TermD) (purp:ByteArray) (at_:Int) :
  (answerF o purp l at_).may = (answerF o purp l' at_).may ∧ (answerF o purp l at_).why = (answerF o purp l' at_).why:=by
 cases o with
 | none => exact ⟨rfl,rfl⟩
 | some t =>
  have c:=h.filter at_
  have c':=h'.filter at_
  rw [← upTo_filter hs,← upTo_filter hs'] at c
  rw [← upTo_filter hs,← upTo_filter hs'] at c'
  have g:=hs.sublist (List.takeWhile_sublist (fun s:StD => decide (s.at_ ≤ at_)))
  have g':=hs'.sublist (List.takeWhile_sublist (fun s:StD => decide (s.at_ ≤ at_)))
  have z:∀ s ∈ upTo l at_,0 ≤ s.at_:=fun s hm => h0 s ((List.takeWhile_sublist _).mem hm)
  have z':∀ s ∈ upTo l' at_,0 ≤ s.at_:=fun s hm => h0' s ((List.takeWhile_sublist _).mem hm)
  unfold answerF
  dsimp only
  change (upTo l at_).Pairwise _ at g
  change (upTo l' at_).Pairwise _ at g'
  generalize upTo l at_ = u at *
  generalize upTo l' at_ = u' at *
  by_cases k:(objF u).is = true
  ·have k':=c.obj c' g g' z z' k
   rw [if_pos k,if_pos k']
   exact ⟨rfl,rfl⟩
  ·have k':¬ (objF u').is = true:=fun q => k (c'.obj c g' g z' z q)
   rw [if_neg k,if_neg k']
   have hw:(wdF purp u).isSome = (wdF purp u').isSome:=by
    cases e:wdF purp u with
    | none => rw [c'.wd e]
    | some v =>
     cases e':wdF purp u' with
     | none => rw [c.wd e'] at e;cases e
     | some v' => rfl
   have hgl:(grF purp u).length = 0 ↔ (grF purp u').length = 0:=by
    have cg:=c.gr c' (purp:=purp)
    have cg':=c'.gr c (purp:=purp)
    constructor
    ·intro q
     cases e:grF purp u' with
     | nil => rfl
     | cons x r =>
      obtain ⟨y,hy,_⟩:=cg' x (by rw [e];simp)
      rw [List.eq_nil_of_length_eq_zero q] at hy
      cases hy
    ·intro q
     cases e:grF purp u with
     | nil => rfl
     | cons x r =>
      obtain ⟨y,hy,_⟩:=cg x (by rw [e];simp)
      rw [List.eq_nil_of_length_eq_zero q] at hy
      cases hy
   unfold allowF
   by_cases q:(wdF purp u).isSome = true ∧ (grF purp u).length = 0
   ·rw [if_pos q,if_pos ⟨by rw [← hw];exact q.1,hgl.1 q.2⟩]
    exact ⟨rfl,rfl⟩
   ·rw [if_neg q,if_neg (show ¬ ((wdF purp u').isSome = true ∧ (grF purp u').length = 0) from fun r => q ⟨by rw [hw];exact r.1,hgl.2 r.2⟩)]
    by_cases f:t.free = true
    ·rw [if_pos f,if_pos f];exact ⟨rfl,rfl⟩
    ·rw [if_neg f,if_neg f]
     by_cases n:(grF purp u).length = 0
     ·rw [if_pos n,if_pos (hgl.1 n)];exact ⟨rfl,rfl⟩
     ·have n':¬ (grF purp u').length = 0:=fun r => n (hgl.2 r)
      rw [if_neg n,if_neg n']
      have hb:=best_why (l:=u) (l':=u') (t:=t) (at_:=at_) (gs:=grF purp u) (gs':=grF purp u') (fun e => n (by rw [e];rfl)) (fun e => n' (by rw [e];rfl))
       (fun x hx => by
        obtain ⟨y,hy,e⟩:=c.gr c' x hx
        exact ⟨y,hy,c.state c' t e at_⟩)
       (fun x hx => by
        obtain ⟨y,hy,e⟩:=c'.gr c x hx
        exact ⟨y,hy,c'.state c t e at_⟩)
      dsimp only
      rw [hb]
      exact ⟨rfl,rfl⟩
open Go.RowKit
def Gro (w w':World):Prop:=∃ q os,w' = Sort.grow (w.drewN q) os
theorem Gro.refl (w:World):Gro w w:=⟨0,#[],by rw [Sort.grow_empty];rfl⟩
theorem drewN_add (w:World) (p q:Nat):(w.drewN p).drewN q = w.drewN (p + q):=by simp [World.drewN,Nat.add_assoc]
theorem Gro.trans {a b c:World} (h:Gro a b) (g:Gro b c):Gro a c:=by
 obtain ⟨p,x,rfl⟩:=h
 obtain ⟨q,y,rfl⟩:=g
 refine ⟨p + q,x ++ y,?_⟩
 rw [show (Sort.grow (a.drewN p) x).drewN q = Sort.grow ((a.drewN p).drewN q) x from rfl,Sort.grow_grow,drewN_add]
theorem Gro.drew (w:World):Gro w w.drew:=⟨1,#[],by rw [Sort.grow_empty];rfl⟩
theorem Gro.alloc (w:World) (o:Obj):Gro w (w.alloc o):=⟨0,#[o],by rw [Sort.alloc_eq_grow];rfl⟩
theorem Gro.below {w w':World} (h:Gro w w'):Below w.heap.size w w':=by
 obtain ⟨q,os,rfl⟩:=h
 exact ⟨rfl,rfl,rfl,by simp [World.drewN],fun b hb => Sort.heap_grow_old (w.drewN q) os hb⟩
theorem lift_gro {w:World} {p:Addr} {v:Value} (h:w.cell? p = some v):∀ W,Gro w W → W.cell? p = some v:=fun W hb => (hb.below.cell (World.block_lt_of_cell? w _ h)).trans h
def idCmp (a b:IdD):Int:=orL [cmpI a.kind b.kind,cmpS a.text b.text]
set_option maxHeartbeats 1000000 in
set_option maxRecDepth 100000 in
theorem compareIds_g (a b:IdD) (w:World):Calls Tryz.prog 66 #[.agg #[.int .i64 a.kind,.string a.text],.agg #[.int .i64 b.kind,.string b.text]] w fun e w' => e = .returned (.int .i64 (idCmp a b)) ∧ Gro w w':=by
 have hb:=Lib.hid ((Gro.alloc w (.cells #[.int .i64 a.kind,.string a.text] 36)).trans (Gro.alloc _ (.cells #[.int .i64 b.kind,.string b.text] 36)))
 have h1:((w.alloc (.cells #[.int .i64 a.kind,.string a.text] 36)).alloc (.cells #[.int .i64 b.kind,.string b.text] 36)).heap[w.heap.size]? = some (.cells #[.int .i64 a.kind,.string a.text] 36):=(heap_lt (by simp)).trans (heap_alloc_new _ _)
 have h2:((w.alloc (.cells #[.int .i64 a.kind,.string a.text] 36)).alloc (.cells #[.int .i64 b.kind,.string b.text] 36)).heap[w.heap.size + 1]? = some (.cells #[.int .i64 b.kind,.string b.text] 36):=heap_at (by simp)
 have H1:=Lib.hid h1
 have H2:=Lib.hid h2
 clear h1 h2
 go_enter Tryz.func66,Tryz.ntmps66
 go_wp2_with fail
 generalize (w.alloc (.cells #[.int .i64 a.kind,.string a.text] 36)).alloc (.cells #[.int .i64 b.kind,.string b.text] 36) = W2 at *
 have K0:=lift_gro (cell_h H1.out 0 (v:=.int .i64 a.kind) rfl)
 have K1:=lift_gro (cell_h H1.out 1 (v:=.string a.text) rfl)
 have J0:=lift_gro (cell_h H2.out 0 (v:=.int .i64 b.kind) rfl)
 have J1:=lift_gro (cell_h H2.out 1 (v:=.string b.text) rfl)
 clear H1 H2
 (refine wp_region_det 10 17 (fun W => Gro W2 W) (by kernel_rfl) (by kernel_rfl) (by rfl) (Gro.drew _) ?_;simp only [List.take_succ_cons,List.take_zero,List.drop_succ_cons,List.drop_zero])
 iterate 4 (refine detSeq_op rfl ?_ (fun W hW => ?_) ?_;rotate_left;(focus simp only [OpV];go_simp;first | exact rfl | exact ⟨rfl,hW⟩))
 (refine detSeq_op rfl ?_ (fun W hW => ?_) ?_;rotate_left;focus (simp only [OpV];go_simp;refine (cmpInt_any a.kind b.kind W).mono ?_;rintro e w' ⟨rfl,rfl⟩;refine ⟨_,rfl,?_,hW⟩;exact rfl))
 iterate 4 (refine detSeq_op rfl ?_ (fun W hW => ?_) ?_;rotate_left;(focus simp only [OpV];go_simp;first | exact rfl | exact ⟨rfl,hW⟩))
 (refine detSeq_op rfl ?_ (fun W hW => ?_) ?_;rotate_left;focus (simp only [OpV];go_simp;refine (cmpStr_any a.text b.text W).mono ?_;rintro e w' ⟨rfl,rfl⟩;refine ⟨_,rfl,?_,hW⟩;exact rfl))
 refine detSeq_nil (fun W3 hW3 => ?_)
 have HB3:=Lib.hid (hb.out.trans hW3)
 have HIN:Hid (Ints (W3.alloc (.cells #[.int .i64 (cmpI a.kind b.kind),.int .i64 (cmpS a.text b.text)] 3)) (some ⟨W3.heap.size,0,none⟩) [cmpI a.kind b.kind,cmpS a.text b.text]):=Ints.of_row (heap_at rfl) rfl
 have HQ:Hid (orL [cmpI a.kind b.kind,cmpS a.text b.text] = idCmp a b):=rfl
 clear K0 K1 J0 J1 hW3
 generalize cmpI a.kind b.kind = u at *
 generalize cmpS a.text b.text = v at *
 go_wp2_with fail
 refine (orL_any _ _ [u,v] _ HIN.out (by simp)).mono ?_
 rintro e w' ⟨rfl,rfl⟩
 generalize orL [u,v] = q at HQ ⊢
 have HB4:=Lib.hid (HB3.out.trans (Gro.alloc _ (.cells #[.int .i64 u,.int .i64 v] 3)))
 go_wp2_with fail
 go_ret
 exact ⟨ret_int HQ.out,HB4.out⟩
open Go.RowKit
def ordCs (a b:StD):List Int:=[cmpI a.at_ b.at_,idCmp ⟨a.kind,a.text⟩ ⟨b.kind,b.text⟩,cmpS a.purp b.purp,cmpI a.ch b.ch,cmpI a.what b.what,cmpS a.region b.region]
def ordCmp (a b:StD):Int:=orL (ordCs a b)
open Go.RowKit
structure CmpOk {D:Type} (f:D → D → Int):Prop where
 swap:∀ a b,f b a = - f a b
 trans:∀ a b c,f a b ≤ 0 → f b c ≤ 0 → f a c ≤ 0
section
variable {D:Type} {f g:D → D → Int}
theorem CmpOk.or (hf:CmpOk f) (hg:CmpOk g):CmpOk fun a b => orI (f a b) (g a b):=by
 refine ⟨fun a b => ?_,fun a b c h1 h2 => ?_⟩
 ·show orI (f b a) (g b a) = - orI (f a b) (g a b)
  unfold orI
  have h3:=hf.swap a b
  have h4:=hg.swap a b
  split <;> split <;> omega
 ·show orI (f a c) (g a c) ≤ 0
  change orI (f a b) (g a b) ≤ 0 at h1
  change orI (f b c) (g b c) ≤ 0 at h2
  unfold orI at h1 h2 ⊢
  have ht:=hf.trans a b c
  have hgt:=hg.trans a b c
  have s1:=hf.swap a b
  have s2:=hf.swap b c
  have s3:=hf.swap a c
  have t1:=hf.trans c a b
  have t2:=hf.trans b c a
  split at h1
  ·split at h2
   ·have:f a c = 0:=by
     have:=ht (by omega) (by omega)
     have:=hf.trans c b a (by omega) (by omega)
     omega
    rw [if_pos this]
    exact hgt h1 h2
   ·have:f a c ≤ 0:=ht (by omega) h2
    have:f a c ≠ 0:=fun e => by
     have:=t1 (by omega) (by omega)
     omega
    rw [if_neg this];omega
  ·have h2':f b c ≤ 0:=by split at h2 <;> omega
   have:f a c ≤ 0:=ht h1 h2'
   have:f a c ≠ 0:=fun e => by
    have:=t2 h2' (by omega)
    omega
   rw [if_neg this];omega
theorem CmpOk.of {E:Type} {k:E → E → Int} (h:CmpOk k) (p:D → E):CmpOk fun a b => k (p a) (p b):=⟨fun a b => h.swap _ _,fun a b c => h.trans _ _ _⟩
end
theorem cmpI_ok:CmpOk cmpI:=⟨fun a b => cmpI_swap a b,fun a b c h1 h2 => by
 have e:∀ x y:Int,cmpI x y ≤ 0 ↔ x ≤ y:=fun x y => by
  have h1:=@cmpI_lt x y
  have h2:=@cmpI_zero x y
  omega
 rw [e] at *
 omega⟩
theorem orL_cons (a:Int) (l:List Int):orL (a :: l) = orI a (orL l):=by
 unfold orI
 conv => lhs;unfold orL
theorem cmpS_ok:CmpOk cmpS:=⟨fun a b => cmpS_swap a b,fun a b c h1 h2 => by
 rcases Int.lt_or_eq_of_le h2 with h | h
 ·have:=cmpS_le_trans h1 h;omega
 ·rw [← cmpS_zero h];exact h1⟩
theorem idCmp_eq (a b:IdD):idCmp a b = orI (cmpI a.kind b.kind) (cmpS a.text b.text):=orL_two _ _
theorem idCmp_ok:CmpOk idCmp:=by
 have h:=(cmpI_ok.of (D:=IdD) IdD.kind).or (cmpS_ok.of (D:=IdD) IdD.text)
 have e:idCmp = fun a b => orI (cmpI a.kind b.kind) (cmpS a.text b.text):=by funext a b;exact idCmp_eq a b
 rw [e]
 exact h
theorem orI_zero {a b:Int}:orI a b = 0 ↔ a = 0 ∧ b = 0:=by
 unfold orI
 split
 ·rename_i h;simp [h]
 ·rename_i h;simp [h]
open Go.RowKit
theorem ordCmp_eq (a b:StD):ordCmp a b = orI (cmpI a.at_ b.at_) (orI (idCmp ⟨a.kind,a.text⟩ ⟨b.kind,b.text⟩) (orI (cmpS a.purp b.purp) (orI (cmpI a.ch b.ch) (orI (cmpI a.what b.what) (cmpS a.region b.region))))):=by
 unfold ordCmp ordCs
 rw [orL_cons,orL_cons,orL_cons,orL_cons,orL_two]
theorem ordCmp_ok:CmpOk ordCmp:=by
 have h:=(cmpI_ok.of (D:=StD) StD.at_).or ((idCmp_ok.of (D:=StD) fun s => ⟨s.kind,s.text⟩).or ((cmpS_ok.of (D:=StD) StD.purp).or ((cmpI_ok.of (D:=StD) StD.ch).or ((cmpI_ok.of (D:=StD) StD.what).or (cmpS_ok.of (D:=StD) StD.region)))))
 have e:ordCmp = fun a b => orI (cmpI a.at_ b.at_) (orI (idCmp ⟨a.kind,a.text⟩ ⟨b.kind,b.text⟩) (orI (cmpS a.purp b.purp) (orI (cmpI a.ch b.ch) (orI (cmpI a.what b.what) (cmpS a.region b.region))))):=by funext a b;exact ordCmp_eq a b
 rw [e]
 exact h
theorem ordCmp_zero {a b:StD}:ordCmp a b = 0 ↔ a.at_ = b.at_ ∧ a.kind = b.kind ∧ a.text = b.text ∧ a.purp = b.purp ∧ a.ch = b.ch ∧ a.what = b.what ∧ a.region = b.region:=by
 rw [ordCmp_eq,orI_zero,orI_zero,orI_zero,orI_zero,orI_zero,idCmp_eq,orI_zero,cmpI_zero,cmpI_zero,cmpI_zero,cmpI_zero]
 have hs:∀ x y:ByteArray,cmpS x y = 0 ↔ x = y:=fun x y => ⟨cmpS_zero,fun h => by rw [h];exact cmpS_self y⟩
 rw [hs,hs,hs]
 constructor
 ·rintro ⟨a1,⟨a2,a3⟩,a4,a5,a6,a7⟩
  exact ⟨a1,a2,a3,a4,a5,a6,a7⟩
 ·rintro ⟨a1,a2,a3,a4,a5,a6,a7⟩
  exact ⟨a1,⟨a2,a3⟩,a4,a5,a6,a7⟩
open Go.RowKit
section
variable {D:Type}
def compG (eq:D → D → Bool):D → List D → List D
 | _,[] => []
 | p,y :: l => if eq y p = true then compG eq y l else y :: compG eq y l
def compF (eq:D → D → Bool):List D → List D
 | [] => []
 | x :: l => x :: compG eq x l
theorem compG_sub (eq:D → D → Bool):∀ (l:List D) (p:D),(compG eq p l).Sublist l
 | [],p => List.Sublist.refl _
 | y :: l,p => by
  unfold compG
  split
  ·exact (compG_sub eq l y).cons y
  ·exact (compG_sub eq l y).cons_cons y
theorem compF_sub (eq:D → D → Bool):∀ (l:List D),(compF eq l).Sublist l
 | [] => List.Sublist.refl _
 | x :: l => (compG_sub eq l x).cons_cons x
theorem compG_snoc (eq:D → D → Bool) (y:D):∀ (l:List D) (p:D),compG eq p (l ++ [y]) = compG eq p l ++ (if eq y ((p :: l).getLast (by simp)) = true then [] else [y])
 | [],p => by
  show (if eq y p = true then _ else _) = _
  simp only [compG,List.getLast_singleton,List.nil_append]
  rfl
 | z :: l,p => by
  rw [List.cons_append]
  unfold compG
  have ih:=compG_snoc eq y l z
  rw [List.getLast_cons (by simp)]
  split
  ·exact ih
  ·rw [ih];rfl
theorem compF_snoc (eq:D → D → Bool) (l:List D) (y z:D) (hz:l.getLast? = some z):compF eq (l ++ [y]) = compF eq l ++ (if eq y z = true then [] else [y]):=by
 cases l with
 | nil => cases hz
 | cons x l =>
  show x :: compG eq x (l ++ [y]) = (x :: compG eq x l) ++ _
  rw [compG_snoc]
  rw [List.getLast?_eq_some_getLast (by simp)] at hz
  injection hz with hz
  rw [hz]
  rfl
theorem compF_take (eq:D → D → Bool) (ds:List D) (i:Nat) (h0:0 < i) (hi:i < ds.length):compF eq (ds.take (i + 1)) = compF eq (ds.take i) ++ (if eq ds[i] (ds[i - 1]'(by omega)) = true then [] else [ds[i]]):=by
 rw [List.take_succ_eq_append_getElem hi]
 refine compF_snoc eq _ _ _ ?_
 rw [List.getLast?_take]
 rw [if_neg (by omega),List.getElem?_eq_getElem (by omega)]
 rfl
theorem compF_one (eq:D → D → Bool) (ds:List D) (h:0 < ds.length):compF eq (ds.take 1) = ds.take 1:=by
 cases ds with
 | nil => cases h
 | cons x l => rfl
theorem comp_cov {eq:D → D → Bool} (hr:∀ a,eq a a = true) (hs:∀ a b,eq a b = true → eq b a = true) (ht:∀ a b c,eq a b = true → eq b c = true → eq a c = true):∀ (l:List D) (p q:D),eq p q = true → ∀ x ∈ l,∃ y ∈ q :: compG eq p l,eq x y = true
 | [],p,q,_,x,hx => by cases hx
 | z :: l,p,q,h,x,hx => by
  unfold compG
  by_cases c:eq z p = true
  ·rw [if_pos c]
   have hz:eq z q = true:=ht _ _ _ c h
   rcases List.mem_cons.1 hx with rfl | hx
   ·exact ⟨q,by simp,hz⟩
   ·exact comp_cov hr hs ht l z q hz x hx
  ·rw [if_neg c]
   rcases List.mem_cons.1 hx with rfl | hx
   ·exact ⟨x,by simp,hr x⟩
   ·obtain ⟨y,hy,e⟩:=comp_cov hr hs ht l z z (hr z) x hx
    exact ⟨y,List.mem_cons_of_mem _ hy,e⟩
theorem compF_cov {eq:D → D → Bool} (hr:∀ a,eq a a = true) (hs:∀ a b,eq a b = true → eq b a = true) (ht:∀ a b c,eq a b = true → eq b c = true → eq a c = true) {l:List D} {x:D} (hx:x ∈ l):∃ y ∈ compF eq l,eq x y = true:=by
 cases l with
 | nil => cases hx
 | cons z l =>
  rcases List.mem_cons.1 hx with rfl | hx
  ·exact ⟨x,by simp [compF],hr x⟩
  ·exact comp_cov hr hs ht l z z (hr z) x hx
end
structure CompOk {D:Type} (eq:D → D → Bool) (ds cur:List D) (i j:Nat):Prop where
 len:cur.length = ds.length
 pos:1 ≤ i
 le:i < j
 lt:j ≤ ds.length
 low:cur.take i = compF eq (ds.take j)
 high:cur.drop (j - 1) = ds.drop (j - 1)
section
variable {D:Type} {eq:D → D → Bool} {ds cur:List D} {i j:Nat}
theorem CompOk.get (h:CompOk eq ds cur i j) {m:Nat} (h1:j - 1 ≤ m) (hm:m < ds.length):cur[m]'(by rw [h.len];exact hm) = ds[m]:=by
 have e:=congrArg (fun l => l[m - (j - 1)]?) h.high
 simp only [List.getElem?_drop] at e
 rw [show j - 1 + (m - (j - 1)) = m from by omega,List.getElem?_eq_getElem (by rw [h.len];exact hm),List.getElem?_eq_getElem hm] at e
 exact Option.some.inj e
theorem CompOk.drop (h:CompOk eq ds cur i j) (hj:j < ds.length) (hp:eq ds[j] (ds[j - 1]'(by omega)) = true):CompOk eq ds cur i (j + 1):=by
 have hle:=h.le
 have hpos:=h.pos
 refine ⟨h.len,h.pos,by omega,hj,?_,?_⟩
 ·rw [compF_take eq ds j (by omega) hj,if_pos hp,List.append_nil,h.low]
 ·have:(cur.drop (j - 1)).drop 1 = (ds.drop (j - 1)).drop 1:=by rw [h.high]
  rw [List.drop_drop,List.drop_drop] at this
  rw [show j + 1 - 1 = j - 1 + 1 from by omega]
  exact this
theorem CompOk.keep (h:CompOk eq ds cur i j) (hj:j < ds.length) (hp:eq ds[j] (ds[j - 1]'(by omega)) = false):CompOk eq ds (cur.set i ds[j]) (i + 1) (j + 1):=by
 have hle:=h.le
 have hpos:=h.pos
 have hl:=h.len
 refine ⟨by simp [hl],by omega,by omega,hj,?_,?_⟩
 ·rw [compF_take eq ds j (by omega) hj,if_neg (by rw [hp];decide),List.take_succ_eq_append_getElem (by simp;omega),List.take_set_of_le (Nat.le_refl _),h.low]
  simp
 ·have:(cur.drop (j - 1)).drop 1 = (ds.drop (j - 1)).drop 1:=by rw [h.high]
  rw [List.drop_drop,List.drop_drop] at this
  rw [show j + 1 - 1 = j - 1 + 1 from by omega,List.drop_set_of_lt (by omega)]
  exact this
theorem CompOk.done (h:CompOk eq ds cur i ds.length):cur.take i = compF eq ds:=by rw [h.low,List.take_length]
theorem CompOk.start {k:Nat} (h1:1 ≤ k) (hk:k < ds.length) (h:compF eq (ds.take k) = ds.take k) (hp:eq ds[k] (ds[k - 1]'(by omega)) = true):CompOk eq ds ds k (k + 1):=by
 refine ⟨rfl,h1,by omega,hk,?_,rfl⟩
 rw [compF_take eq ds k (by omega) hk,if_pos hp,List.append_nil,h]
end
open Go.RowKit
def numTo (i:Nat) (l:List StD):List StD:=l.mapIdx fun j s => if j < i then { s with no:=(j + 1:Nat) } else s
def numL (l:List StD):List StD:=numTo l.length l
theorem numTo_len (i:Nat) (l:List StD):(numTo i l).length = l.length:=by simp [numTo]
theorem numTo_at {i j:Nat} {l:List StD} (h:j < l.length):(numTo i l)[j]'(by rw [numTo_len];exact h) = if j < i then { l[j] with no:=(j + 1:Nat) } else l[j]:=by simp [numTo]
def eqO (a b:StD):Bool:=decide (ordCmp a b = 0)
theorem eqO_iff {a b:StD}:eqO a b = true ↔ ordCmp a b = 0:=by unfold eqO;simp
def MergeOk (l m:List StD):Prop:=∃ s:List StD,s.Perm l ∧ (s.Pairwise fun a b => ordCmp a b ≤ 0) ∧ m = numL (compF eqO s)
theorem eqO_refl (a:StD):eqO a a = true:=eqO_iff.2 (by have:=ordCmp_ok.swap a a;omega)
theorem eqO_symm (a b:StD) (h:eqO a b = true):eqO b a = true:=eqO_iff.2 (by have:=ordCmp_ok.swap a b;have:=eqO_iff.1 h;omega)
theorem eqO_trans (a b c:StD) (h:eqO a b = true) (h':eqO b c = true):eqO a c = true:=by
 rw [eqO_iff,ordCmp_zero] at *
 obtain ⟨a1,a2,a3,a4,a5,a6,a7⟩:=h
 obtain ⟨b1,b2,b3,b4,b5,b6,b7⟩:=h'
 exact ⟨a1.trans b1,a2.trans b2,a3.trans b3,a4.trans b4,a5.trans b5,a6.trans b6,a7.trans b7⟩
theorem MergeOk.len {l m:List StD} (h:MergeOk l m):m.length ≤ l.length:=by
 obtain ⟨s,p1,p2,rfl⟩:=h
 unfold numL
 rw [numTo_len,← p1.length_eq]
 exact (compF_sub _ _).length_le
theorem MergeOk.mem {l m:List StD} (h:MergeOk l m) {y:StD} (hy:y ∈ m):∃ x ∈ l,∃ j:Nat,j < m.length ∧ y = { x with no:=(j + 1:Nat) }:=by
 obtain ⟨s,p1,p2,rfl⟩:=h
 obtain ⟨j,hj,rfl⟩:=List.mem_iff_getElem.1 hy
 have hj2:j < (compF eqO s).length:=by unfold numL at hj;rwa [numTo_len] at hj
 refine ⟨(compF eqO s)[j],p1.mem_iff.1 ((compF_sub _ _).subset (List.getElem_mem hj2)),j,hj,?_⟩
 have e2:=numTo_at (i:=(compF eqO s).length) hj2
 rw [if_pos hj2] at e2
 exact e2
theorem MergeOk.cov {l m:List StD} (h:MergeOk l m) {x:StD} (hx:x ∈ l):∃ y ∈ m,ordCmp x y = 0:=by
 obtain ⟨s,p1,p2,rfl⟩:=h
 obtain ⟨y,hy,e⟩:=compF_cov eqO_refl eqO_symm eqO_trans (p1.mem_iff.2 hx)
 obtain ⟨j,hj,rfl⟩:=List.mem_iff_getElem.1 hy
 have e2:=numTo_at (i:=(compF eqO s).length) hj
 rw [if_pos hj] at e2
 refine ⟨_,List.getElem_mem (l:=numL (compF eqO s)) (n:=j) (by unfold numL;rw [numTo_len];exact hj),?_⟩
 unfold numL
 exact (congrArg (ordCmp x) e2).trans (eqO_iff.1 e)
theorem MergeOk.nos {l m:List StD} (h:MergeOk l m):m.Pairwise fun a b => a.no < b.no:=by
 obtain ⟨s,p1,p2,rfl⟩:=h
 rw [List.pairwise_iff_getElem]
 intro i j hi hj hij
 unfold numL at hi hj ⊢
 rw [numTo_len] at hi hj
 rw [numTo_at hi,numTo_at hj,if_pos hi,if_pos hj]
 show ((i + 1:Nat):Int) < ((j + 1:Nat):Int)
 omega
theorem said_mem {ss:List StD} {kind:Int} {text:ByteArray} {ch:Int} {s:StD}:s ∈ saidF ss kind text ch ↔ s ∈ ss ∧ s.kind = kind ∧ s.text = text ∧ s.ch = ch:=by
 unfold saidF
 rw [(isort_perm _ _).mem_iff,List.mem_filter]
 unfold ownB
 simp only [Bool.and_eq_true,decide_eq_true_eq,eqS_iff,and_assoc]
theorem MergeOk.may {l m:List StD} (h:MergeOk l m) (h0:∀ s ∈ l,0 ≤ s.at_) (ps:List PurD) (kind:Int) (text purp region:ByteArray) (ch at_:Int) :
  (askF ps l kind text purp region ch at_).may = (askF ps m kind text purp region ch at_).may ∧ (askF ps l kind text purp region ch at_).why = (askF ps m kind text purp region ch at_).why:=by
 unfold askF
 refine answer_set ?_ ?_ (saidF_at _ _ _ _) (saidF_at _ _ _ _) ?_ ?_ _ _ _
 ·intro s hs
  obtain ⟨h1,h2,h3,h4⟩:=said_mem.1 hs
  obtain ⟨y,hy,e⟩:=h.cov h1
  obtain ⟨a1,a2,a3,a4,a5,a6,a7⟩:=ordCmp_zero.1 e
  exact ⟨y,said_mem.2 ⟨hy,a2 ▸ h2,a3 ▸ h3,a5 ▸ h4⟩,a1,a6,a4⟩
 ·intro s hs
  obtain ⟨h1,h2,h3,h4⟩:=said_mem.1 hs
  obtain ⟨x,hx,j,hj,rfl⟩:=h.mem h1
  exact ⟨x,said_mem.2 ⟨hx,h2,h3,h4⟩,rfl,rfl,rfl⟩
 ·intro s hs
  exact h0 s (said_mem.1 hs).1
 ·intro s hs
  obtain ⟨x,hx,j,hj,rfl⟩:=h.mem (said_mem.1 hs).1
  exact h0 x hx
end Go.Proofs.YtcncifmanodabaaGreatDoor
