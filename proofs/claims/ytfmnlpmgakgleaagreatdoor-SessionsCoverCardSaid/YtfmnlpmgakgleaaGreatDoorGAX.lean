/- Texts of this claim, put together: SesP, Sessions. -/
import Derived.Test.YtfmnlpmgakgleaaGreatDoorGAK
import Derived.Test.YtfmnlpmgakgleaaGreatDoorGAV
import Derived.Test.YtfmnlpmgakgleaaGreatDoorGAL
namespace Go.Proofs.YtfmnlpmgakgleaaGreatDoor
set_option linter.unusedVariables false
open Go.RowKit
structure SesD where
 fr:Int
 til:Int
 many:Nat
 first:ByteArray
instance:Inhabited SesD:=⟨⟨0,0,0,⟨#[]⟩⟩⟩
def fSe (s:SesD):Nat → Value
 | 0 => .int .i64 s.fr
 | 1 => .int .i64 s.til
 | 2 => .int .i64 s.many
 | _ => .string s.first
inductive SesR (es:List EvD) (gap:Int):Nat → List SesD → Prop
 | nil:SesR es gap 0 []
 | new {n:Nat} {ss:List SesD} (h:SesR es gap n ss) (hn:n < es.length) (hg:∀ s,ss.getLast? = some s → gap < es[n].at_ - (s.til - 1)):SesR es gap (n + 1) (ss ++ [⟨es[n].at_,es[n].at_ + 1,1,es[n].id⟩])
 | more {n:Nat} {ss:List SesD} {s:SesD} (h:SesR es gap n (ss ++ [s])) (hn:n < es.length):SesR es gap (n + 1) (ss ++ [⟨s.fr,es[n].at_ + 1,s.many + 1,s.first⟩])
def preN (ss:List SesD) (i:Nat):Nat:=((ss.take i).map SesD.many).sum
theorem preN_app {ss:List SesD} {x:SesD} {i:Nat} (h:i ≤ ss.length):preN (ss ++ [x]) i = preN ss i:=by
 unfold preN
 rw [List.take_append_of_le_length h]
theorem preN_succ {ss:List SesD} {i:Nat} (h:i < ss.length):preN ss (i + 1) = preN ss i + ss[i].many:=by
 unfold preN
 rw [List.take_succ_eq_append_getElem h,List.map_append,List.sum_append]
 simp
theorem preN_snoc {ss:List SesD} {x:SesD}:preN (ss ++ [x]) (ss.length + 1) = preN ss ss.length + x.many:=by
 rw [preN_succ (by simp),preN_app (Nat.le_refl _)]
 simp
structure SesAt (es:List EvD) (gap:Int) (ss:List SesD) (i:Nat) (s:SesD):Prop where
 pos:1 ≤ s.many
 le:preN ss i + s.many ≤ es.length
 first:∀ e,es[preN ss i]? = some e → s.first = e.id ∧ s.fr = e.at_
 last:∀ e,es[preN ss i + s.many - 1]? = some e → s.til = e.at_ + 1
 gap:∀ t,0 < i → ss[i - 1]? = some t → gap < s.fr - (t.til - 1)
structure SesAll (es:List EvD) (gap:Int) (n:Nat) (ss:List SesD):Prop where
 sum:preN ss ss.length = n
 le:n ≤ es.length
 last:∀ s,ss.getLast? = some s → ∀ e,es[n - 1]? = some e → s.til = e.at_ + 1
 at_:∀ i (h:i < ss.length),SesAt es gap ss i ss[i]
theorem SesAt.snoc {es:List EvD} {gap:Int} {ss:List SesD} {i:Nat} {s x:SesD} (h:SesAt es gap ss i s) (hi:i < ss.length):SesAt es gap (ss ++ [x]) i s:=by
 have e:=preN_app (x:=x) (Nat.le_of_lt hi)
 refine ⟨h.pos,by rw [e];exact h.le,by rw [e];exact h.first,by rw [e];exact h.last,fun t h0 ht => h.gap t h0 ?_⟩
 rwa [List.getElem?_append_left (by omega)] at ht
theorem SesR.all {es:List EvD} {gap:Int} {n:Nat} {ss:List SesD} (h:SesR es gap n ss):SesAll es gap n ss:=by
 induction h with
 | nil => exact ⟨rfl,Nat.zero_le _,fun s h => (by cases h),fun i h => absurd h (by simp)⟩
 | @new n ss h hn hg ih =>
  refine ⟨?_,hn,?_,fun i hi => ?_⟩
  ·have e:(ss ++ [(⟨es[n].at_,es[n].at_ + 1,1,es[n].id⟩:SesD)]).length = ss.length + 1:=by simp
   rw [e,preN_snoc,ih.sum]
  ·intro s hs e he
   rw [List.getLast?_concat] at hs
   injection hs with hs
   subst hs
   rw [Nat.add_sub_cancel,List.getElem?_eq_getElem hn] at he
   injection he with he
   rw [he]
  ·by_cases c:i < ss.length
   ·rw [List.getElem_append_left c]
    exact (ih.at_ i c).snoc c
   ·have e:i = ss.length:=by simp at hi;omega
    subst e
    rw [List.getElem_append_right (Nat.le_refl _)]
    simp only [Nat.sub_self,List.getElem_cons_zero]
    have e:=preN_app (x:=⟨es[n].at_,es[n].at_ + 1,1,es[n].id⟩) (Nat.le_refl ss.length)
    rw [ih.sum] at e
    refine ⟨Nat.le_refl _,by rw [e];exact hn,?_,?_,?_⟩
    ·intro y hy
     rw [e,List.getElem?_eq_getElem hn] at hy
     injection hy with hy
     rw [← hy]
     exact ⟨rfl,rfl⟩
    ·intro y hy
     rw [e] at hy
     simp only [Nat.add_sub_cancel] at hy
     rw [List.getElem?_eq_getElem hn] at hy
     injection hy with hy
     rw [← hy]
    ·intro t h0 ht
     rw [List.getElem?_append_left (by omega)] at ht
     refine hg t ?_
     rw [List.getLast?_eq_getElem?]
     exact ht
 | @more n ss s h hn ih =>
  have e0:=preN_app (x:=s) (Nat.le_refl ss.length)
  have e1:=preN_app (x:=(⟨s.fr,es[n].at_ + 1,s.many + 1,s.first⟩:SesD)) (Nat.le_refl ss.length)
  have hs:=ih.sum
  have el:∀ x:SesD,(ss ++ [x]).length = ss.length + 1:=fun x => by simp
  rw [el,preN_snoc] at hs
  have hl:=ih.at_ ss.length (by simp)
  rw [List.getElem_append_right (Nat.le_refl _)] at hl
  simp only [Nat.sub_self,List.getElem_cons_zero] at hl
  refine ⟨?_,hn,?_,fun i hi => ?_⟩
  ·rw [el,preN_snoc]
   show _ + (s.many + 1) = _
   omega
  ·intro t ht e he
   rw [List.getLast?_concat] at ht
   injection ht with ht
   subst ht
   rw [Nat.add_sub_cancel,List.getElem?_eq_getElem hn] at he
   injection he with he
   rw [he]
  ·by_cases c:i < ss.length
   ·rw [List.getElem_append_left c]
    have h1:=ih.at_ i (by simp;omega)
    rw [List.getElem_append_left c] at h1
    have e2:=preN_app (x:=s) (Nat.le_of_lt c)
    have e3:=preN_app (x:=(⟨s.fr,es[n].at_ + 1,s.many + 1,s.first⟩:SesD)) (Nat.le_of_lt c)
    have g1:=h1.le
    have g2:=h1.first
    have g3:=h1.last
    rw [e2] at g1 g2 g3
    refine ⟨h1.pos,by rw [e3];exact g1,by rw [e3];exact g2,by rw [e3];exact g3,fun t h0 ht => h1.gap t h0 ?_⟩
    rw [List.getElem?_append_left (by omega)] at ht ⊢
    exact ht
   ·have e:i = ss.length:=by simp at hi;omega
    subst e
    rw [List.getElem_append_right (Nat.le_refl _)]
    simp only [Nat.sub_self,List.getElem_cons_zero]
    have g1:=hl.le
    have g2:=hl.first
    rw [e0] at g1 g2
    have g4:=hl.pos
    refine ⟨by show 1 ≤ s.many + 1;omega,by rw [e1];show _ + (s.many + 1) ≤ _;omega,by rw [e1];exact g2,?_,?_⟩
    ·intro y hy
     rw [e1] at hy
     have:preN ss ss.length + (s.many + 1) - 1 = n:=by omega
     simp only at hy
     rw [this,List.getElem?_eq_getElem hn] at hy
     injection hy with hy
     rw [← hy]
    ·intro t h0 ht
     refine hl.gap t h0 ?_
     rw [List.getElem?_append_left (by omega)] at ht ⊢
     exact ht
open Go.RowKit
theorem infoSe:(Tryz.prog.info? 37).map (fun i => (i.zero,i.size,i.bytes)) = some (some (.agg #[.int .i64 0,.int .i64 0,.int .i64 0,.string ⟨#[]⟩]),4,40):=by kernel_rfl
section
variable {es:List EvD} {gap:Int} {n:Nat} {ss:List SesD}
theorem SesR.zero (h:SesR es gap 0 ss):ss = []:=by
 cases h
 rfl
theorem SesR.ne (h:SesR es gap (n + 1) ss):∃ ss0 s,ss = ss0 ++ [s]:=by
 cases h with
 | new h hn hg => exact ⟨_,_,rfl⟩
 | more h hn => exact ⟨_,_,rfl⟩
theorem SesR.len (h:SesR es gap n ss):ss.length ≤ n:=by
 induction h with
 | nil => exact Nat.le_refl _
 | new h hn hg ih => simp;omega
 | more h hn ih => simp at ih ⊢;omega
theorem SesR.last {s:SesD} (h:SesR es gap (n + 1) (ss ++ [s])) (hn:n < es.length):s.til = es[n].at_ + 1 ∧ s.many ≤ n + 1:=by
 have a:=h.all
 refine ⟨?_,?_⟩
 ·refine a.last s (List.getLast?_concat) es[n] ?_
  rw [Nat.add_sub_cancel,List.getElem?_eq_getElem hn]
 ·have:=a.sum
  rw [show (ss ++ [s]).length = ss.length + 1 by simp,preN_snoc] at this
  omega
end
theorem ses_upd {w:World} {g:Nat} {rest:List Value} {ss0:List SesD} {s:SesD} (hk:KBlk w g 37 4 fSe (ss0 ++ [s]) rest) (a:Int) :
  w.cell? ⟨g,ss0.length * 4 + 1,none⟩ = some (.int .i64 s.til) ∧ w.cell? ⟨g,ss0.length * 4 + 2,none⟩ = some (.int .i64 s.many) ∧ KBlk ((w.setCell ⟨g,ss0.length * 4 + 1,none⟩ (.int .i64 a)).setCell ⟨g,ss0.length * 4 + 2,none⟩ (.int .i64 ((s.many:Int) + 1))) g 37 4 fSe (ss0 ++ [⟨s.fr,a,s.many + 1,s.first⟩]) rest:=by
 have hl:ss0.length < (ss0 ++ [s]).length:=by simp
 have e:(ss0 ++ [s])[ss0.length] = s:=by simp
 have c1:=hk.cell ss0.length 1 hl (by omega)
 have c2:=hk.cell ss0.length 2 hl (by omega)
 rw [e] at c1 c2
 have u1:=hk.upd ss0.length 1 hl (by omega) (d':=⟨s.fr,a,s.many,s.first⟩) (x:=.int .i64 a) rfl (fun m hm hne => by
  rw [e]
  have:m = 0 ∨ m = 2 ∨ m = 3:=by omega
  rcases this with rfl | rfl | rfl <;> rfl)
 have hl2:ss0.length < ((ss0 ++ [s]).set ss0.length ⟨s.fr,a,s.many,s.first⟩).length:=by simp
 have u2:=u1.upd ss0.length 2 hl2 (by omega) (d':=⟨s.fr,a,s.many + 1,s.first⟩) (x:=.int .i64 ((s.many:Int) + 1)) rfl (fun m hm hne => by
  have:m = 0 ∨ m = 1 ∨ m = 3:=by omega
  rcases this with rfl | rfl | rfl <;> simp [fSe])
 refine ⟨c1,c2,?_⟩
 have e2:(((ss0 ++ [s]).set ss0.length ⟨s.fr,a,s.many,s.first⟩).set ss0.length ⟨s.fr,a,s.many + 1,s.first⟩) = ss0 ++ [⟨s.fr,a,s.many + 1,s.first⟩]:=by simp
 rw [e2] at u2
 exact u2
def SesPost (es:List EvD) (gap:Int) (w:World) (e:Ending) (w':World):Prop:=∃ v ss,e = .returned (.tuple #[v,.int .i64 0]) ∧ Orow w' w.heap.size 37 4 fSe v ss ∧ SesR es gap es.length ss ∧ Below w.heap.size w w'
set_option maxHeartbeats 8000000 in
set_option maxRecDepth 100000 in
theorem sessions_any (H:Frz) (hU:UtfIn H) (hM:MLen H) (A:Option Addr) (cap:Nat) (es:List EvD) (gap:Int) (W:World) (hH:H.In W) (hR:Rw H A 6 fEv es) (hI:∀ d ∈ es,EvIn H d) (hl:es.length ≤ 1000) (hr:RightEs es) (hgap:1 ≤ gap ∧ gap ≤ 1440) (hat:∀ d ∈ es,0 ≤ d.at_ ∧ d.at_ ≤ 100000) :
  Calls Tryz.prog 11 #[.slice A es.length cap,.int .i64 gap] W (SesPost es gap W):=by
 obtain ⟨i0,hi0,hz0,hz1,hz2⟩:=info_parts infoSe
 have HCK:=Lib.hid (check_right H hU hM A cap es W hH hR hI (by omega) hr)
 have HR:=Lib.hid hR
 have HH:=Lib.hid hH
 have HAT:=Lib.hid hat
 clear hH hR hI hr hU hM hat
 go_enter Tryz.func11,Tryz.ntmps11
 go_wp2_with fail
 refine HCK.out.mono ?_
 rintro e W1 ⟨rfl,hb1⟩
 have HB1:=Lib.hid hb1
 have HO1:Hid (Orow W1 W.heap.size 37 4 fSe (.slice none 0 0) []):=Orow.nil _ _ _ _ _
 clear hb1 HCK
 go_wp2_with fail
 refine (ewithin_any _ _ _ _).mono ?_
 rintro e w' ⟨rfl,rfl⟩
 have k1:(decide ((1:Int) ≤ gap) && decide (gap ≤ 1440)) = true:=by simp;omega
 rw [k1]
 clear k1
 go_wp2_with fail
 go_loopw [7,21] (fun tv t wr => ∃ (i:Nat) (ss:List SesD),i ≤ es.length ∧ t = .int .i64 i ∧ Hid (Orow wr W.heap.size 37 4 fSe tv ss) ∧ Hid (SesR es gap i ss) ∧ Hid (Below W.heap.size W wr)) (fun _ t _ => es.length - (intOf t).toNat)
 case atStart => exact ⟨0,[],by omega,rfl,HO1,SesR.nil,HB1⟩
 case round =>
  obtain ⟨i,ss,hi,rfl,hO,hS,hb⟩:=hrel
  clear HB1 HO1
  obtain ⟨A7,c7,hv,hle⟩:=hO.out.slice
  have HLN:Hid (ss.length ≤ i):=hS.out.len
  by_cases hlt:i < es.length
  ·subst hv
   have hin:=HH.out.below hb.out
   obtain ⟨b,off,hA,hbl,hc⟩:=HR.out.at_ hin hlt (by omega)
   have hel:Hid (∀ p (hp:p < es.length),∀ W',Below wr.heap.size wr W' → W'.cell? ⟨b,off + p * 6 + 2,none⟩ = some (.int .i64 es[p].at_)):=by
    intro p hp W' hW'
    obtain ⟨b',off',hA',hbl',hc'⟩:=HR.out.at_ hin hp (by omega)
    rw [hA] at hA'
    simp only [Option.some.injEq,Addr.mk.injEq] at hA'
    obtain ⟨rfl,rfl,_⟩:=hA'
    exact (hW'.cell (World.block_lt_of_cell? wr _ (hc' 2 (by omega)))).trans (hc' 2 (by omega))
   subst hA
   have c0:wr.cell? ⟨b,off + i * 6,none⟩ = some (.string es[i].id):=hc 0 (by omega)
   have c1:wr.cell? ⟨b,off + i * 6 + 1,none⟩ = some (.string es[i].name):=hc 1 (by omega)
   have c2:wr.cell? ⟨b,off + i * 6 + 2,none⟩ = some (.int .i64 es[i].at_):=hc 2 (by omega)
   have c3:wr.cell? ⟨b,off + i * 6 + 3,none⟩ = some (.int .i64 es[i].kind):=hc 3 (by omega)
   have c4:wr.cell? ⟨b,off + i * 6 + 4,none⟩ = some (.string es[i].text):=hc 4 (by omega)
   have c5:wr.cell? ⟨b,off + i * 6 + 5,none⟩ = some (.slice es[i].fa es[i].fields.length es[i].fc):=hc 5 (by omega)
   obtain ⟨ha0,ha1⟩:=HAT.out _ (List.getElem_mem hlt)
   have HNEW:Hid ((∀ s,ss.getLast? = some s → gap < es[i].at_ - (s.til - 1)) → SesR es gap (i + 1) (ss ++ [⟨es[i].at_,es[i].at_ + 1,1,es[i].id⟩])):=fun h => SesR.new hS.out hlt h
   have HMORE:Hid (∀ ss0 s,ss = ss0 ++ [s] → SesR es gap (i + 1) (ss0 ++ [⟨s.fr,es[i].at_ + 1,s.many + 1,s.first⟩])):=fun ss0 s e => SesR.more (e ▸ hS.out) hlt
   clear hc hin
   generalize es[i] = d at *
   have z0:(wr.alloc (.cells #[.string d.id,.string d.name,.int .i64 d.at_,.int .i64 d.kind,.string d.text,.slice d.fa d.fields.length d.fc] 42)).cell? ⟨wr.heap.size,0,none⟩ = some (.string d.id):=newc 0 rfl
   have z1:(wr.alloc (.cells #[.string d.id,.string d.name,.int .i64 d.at_,.int .i64 d.kind,.string d.text,.slice d.fa d.fields.length d.fc] 42)).cell? ⟨wr.heap.size,1,none⟩ = some (.string d.name):=newc 1 rfl
   have z2:(wr.alloc (.cells #[.string d.id,.string d.name,.int .i64 d.at_,.int .i64 d.kind,.string d.text,.slice d.fa d.fields.length d.fc] 42)).cell? ⟨wr.heap.size,2,none⟩ = some (.int .i64 d.at_):=newc 2 rfl
   have z3:(wr.alloc (.cells #[.string d.id,.string d.name,.int .i64 d.at_,.int .i64 d.kind,.string d.text,.slice d.fa d.fields.length d.fc] 42)).cell? ⟨wr.heap.size,3,none⟩ = some (.int .i64 d.kind):=newc 3 rfl
   have z4:(wr.alloc (.cells #[.string d.id,.string d.name,.int .i64 d.at_,.int .i64 d.kind,.string d.text,.slice d.fa d.fields.length d.fc] 42)).cell? ⟨wr.heap.size,4,none⟩ = some (.string d.text):=newc 4 rfl
   have z5:(wr.alloc (.cells #[.string d.id,.string d.name,.int .i64 d.at_,.int .i64 d.kind,.string d.text,.slice d.fa d.fields.length d.fc] 42)).cell? ⟨wr.heap.size,5,none⟩ = some (.slice d.fa d.fields.length d.fc):=newc 5 rfl
   have HBN:=Lib.hid (new1 (w:=wr) (.cells #[.string d.id,.string d.name,.int .i64 d.at_,.int .i64 d.kind,.string d.text,.slice d.fa d.fields.length d.fc] 42))
   have HBA:=Lib.hid HBN.out
   have HQL:Hid (wr.heap.size ≤ (wr.alloc (.cells #[.string d.id,.string d.name,.int .i64 d.at_,.int .i64 d.kind,.string d.text,.slice d.fa d.fields.length d.fc] 42)).heap.size):=HBA.out.size
   have HBW:=Lib.hid (hb.out.trans (HBN.out.mono hb.out.size))
   have HO5:=Lib.hid (hO.out.below HBN.out)
   clear HBN hb hO
   go_upto_region 10 with (fail)
   have ZK0:=Lib.hid z0
   have ZK2:=Lib.hid z2
   have ZH:=Lib.hid (heap_alloc_new wr (.cells #[.string d.id,.string d.name,.int .i64 d.at_,.int .i64 d.kind,.string d.text,.slice d.fa d.fields.length d.fc] 42))
   clear c0 c1 c2 c3 c4 c5 z0 z1 z2 z3 z4 z5
   generalize wr.alloc (.cells #[.string d.id,.string d.name,.int .i64 d.at_,.int .i64 d.kind,.string d.text,.slice d.fa d.fields.length d.fc] 42) = W5 at *
   generalize wr.heap.size = q at *
   have HW2:=Lib.hid (fun W' (h:Below W5.heap.size W5 W') => lift_cell ZK2.out _ h)
   have Z2:=lift_cell ZK2.out
   rcases Nat.eq_zero_or_pos i with h0 | hpos
   ·subst h0
    have hs0:=hS.out.zero
    have HSN:=Lib.hid (HNEW.out (fun s h => by rw [hs0] at h;cases h))
    clear hs0
    (refine wp_region_det 14 71 (fun W => Below (W5).heap.size (W5) W) (by kernel_rfl) (by kernel_rfl) (by rfl) (Below.refl _ _).drew ?_;simp only [List.take_succ_cons,List.take_zero,List.drop_succ_cons,List.drop_zero])
    iterate 3 (refine detSeq_op rfl ?_ (fun W hW => ?_) ?_;rotate_left;(focus simp only [OpV];go_simp;first | exact rfl | exact ⟨rfl,hW⟩))
    iterate 11 (refine detSeq_no (by kernel_rfl) ?_)
    refine detSeq_nil (fun W6 hW6 => ?_)
    have HB6:=Lib.hid (HBW.out.trans (hW6.mono HBW.out.size))
    have HO6:=Lib.hid (HO5.out.below hW6)
    have z6:=Z2 _ hW6
    have z60:=lift_cell ZK0.out _ hW6
    have hq6:=(hW6.block q (lt_of_heap ZH.out)).trans ZH.out
    have hna:=HO6.out.not_at hq6 (by decide)
    have hB9:=HB6.out.size
    have hl9:ss.length ≤ 1000:=by have:=HLN.out;omega
    have HQ6:=Lib.hid hq6
    have HNA:=Lib.hid hna
    clear hW6 Z2 HO5 hq6 hna
    go_upto_region 12 with (at_builtin;refine wpList_app_at rfl _ _ 30 rfl W.heap.size 37 i0 (.agg #[.int .i64 0,.int .i64 0,.int .i64 0,.string ⟨#[]⟩]) 4 40 Tryz.underlying30 hi0 hz0 hz1 hz2 rfl (by decide) fSe _ ss rfl HO6.out ⟨d.at_,0,0,d.id⟩ #[.int .i64 d.at_,.int .i64 0,.int .i64 0,.string d.id] 37 rfl rfl (by simp [Value.oneCell']) (by omega) (by omega) hB9 ?_;intro v1 WX o1 g1 b1 at1;have HOX:=Lib.hid o1;have HBX:=Lib.hid (HB6.out.trans b1);have HZX:=Lib.hid ((g1.block q (lt_of_heap HQ6.out) (fun e => HNA.out e.symm)).trans HQ6.out);clear o1 g1 b1 at1)
    have zx:=cell_h HZX.out 2 (v:=.int .i64 d.at_) rfl
    clear z6 z60 HO6 HB6 hB9 HQ6 HNA HZX
    obtain ⟨g,cp,rest,hvv,hlee,hBg,hgl,hmg,hk,hr⟩:=HOX.out.form (by simp)
    rw [show (ss ++ [(⟨d.at_,0,0,d.id⟩:SesD)]).length = ss.length + 1 by simp] at hvv hlee hr
    obtain ⟨k1,k2,hk2⟩:=ses_upd hk (d.at_ + 1)
    have f1:=hk.frozen (ss.length * 4 + 1)
    have f2:=hk.frozen (ss.length * 4 + 2)
    have hpl2:(ss.length:Int) < ss.length + 1:=by omega
    have b1:IntKind.i64.wrap (ss.length:Int) = (ss.length:Int):=IntWalk.i64_in _ (by omega)
    have b2:IntKind.i64.wrap (d.at_ + 1) = d.at_ + 1:=IntWalk.i64_in _ (by omega)
    have b3:IntKind.i64.wrap (((0:Nat):Int) + 1) = ((0:Nat):Int) + 1:=IntWalk.i64_in _ (by omega)
    have hg9:=vm_setc (vm_setc (World.grownBy.refl WX (some g)) (ss.length * 4 + 1) (.int .i64 (d.at_ + 1))) (ss.length * 4 + 2) (.int .i64 (((0:Nat):Int) + 1))
    have HBF:=Lib.hid (HBX.out.grown hg9 HBX.out.size (fun k hk => by injection hk with hk;omega))
    have HOF:=Lib.hid (Orow.of_blk (cap:=cp) hk2 hBg hmg (by simpa using hlee) (by simpa using hr))
    rw [show (ss ++ [(⟨(⟨d.at_,0,0,d.id⟩:SesD).fr,d.at_ + 1,(0:Nat) + 1,(⟨d.at_,0,0,d.id⟩:SesD).first⟩:SesD)]).length = ss.length + 1 by simp] at HOF
    subst hvv
    clear hk hr hk2 hg9 HOX HBX
    go_wp2_with fail
    go_roundw
    case rel => exact ⟨_,_,by omega,by go_num,HOF,HSN,HBF⟩
    case measure => simp [intOf];omega
   ·obtain ⟨p,hp⟩:∃ p,i = p + 1:=⟨i - 1,by omega⟩
    subst hp
    obtain ⟨ss0,s,hss⟩:=hS.out.ne
    have hpl:p < es.length:=by omega
    have Q2:=lift_cell (hel.out p hpl W5 HBA.out)
    obtain ⟨hb0,hb1⟩:=HAT.out _ (List.getElem_mem hpl)
    have HLS:Hid (s.til = es[p].at_ + 1 ∧ s.many ≤ p + 1):=(SesR.last (hss ▸ hS.out) hpl)
    generalize es[p] = c at *
    have d1:(((p + 1:Nat):Int) == 0) = false:=by rw [beq_eq_false_iff_ne];omega
    have a2:((p + 1:Nat):Int) - 1 = (p:Int):=by omega
    have a3:(p:Int) < es.length:=by omega
    have a4:IntKind.i64.wrap (p:Int) = (p:Int):=IntWalk.i64_in _ (by omega)
    have wa:IntKind.i64.wrap (d.at_ - c.at_) = d.at_ - c.at_:=IntWalk.i64_in _ (by omega)
    by_cases hcc:gap < d.at_ - c.at_
    ·have dc:decide (gap < d.at_ - c.at_) = true:=by simp;omega
     have HSN:=Lib.hid (HNEW.out (fun s' h => by rw [hss,List.getLast?_concat] at h;injection h with h;subst h;have:=HLS.out.1;omega))
     (refine wp_region_det 14 71 (fun W => Below (W5).heap.size (W5) W) (by kernel_rfl) (by kernel_rfl) (by rfl) (Below.refl _ _).drew ?_;simp only [List.take_succ_cons,List.take_zero,List.drop_succ_cons,List.drop_zero])
     iterate 1 (refine detSeq_op rfl ?_ (fun W hW => ?_) ?_;rotate_left;(focus simp only [OpV];go_simp;first | exact rfl | exact ⟨rfl,hW⟩))
     (refine detSeq_op rfl (.bool false) (fun W hW => ?_) ?_;focus (simp only [OpV];go_simp;all_goals (first | exact rfl | exact hW | exact ⟨by rw [d1],hW⟩ | exact ⟨by simp;omega,hW⟩ | (intro h;omega))))
     iterate 1 (refine detSeq_op rfl ?_ (fun W hW => ?_) ?_;rotate_left;(focus simp only [OpV];go_simp;first | exact rfl | exact ⟨rfl,hW⟩))
     iterate 11 (refine detSeq_yes (by kernel_rfl) ?_ (fun W hW => ?_) ?_;rotate_left;(focus simp only [OpV];go_simp;first | exact rfl | exact ⟨rfl,hW⟩))
     refine detSeq_nil (fun W6 hW6 => ?_)
     clear Q2 hss HLS
     have HB6:=Lib.hid (HBW.out.trans (hW6.mono HBW.out.size))
     have HO6:=Lib.hid (HO5.out.below hW6)
     have z6:=Z2 _ hW6
     have z60:=lift_cell ZK0.out _ hW6
     have hq6:=(hW6.block q (lt_of_heap ZH.out)).trans ZH.out
     have hna:=HO6.out.not_at hq6 (by decide)
     have hB9:=HB6.out.size
     have hl9:ss.length ≤ 1000:=by have:=HLN.out;omega
     have HQ6:=Lib.hid hq6
     have HNA:=Lib.hid hna
     clear hW6 Z2 HO5 hq6 hna
     go_upto_region 12 with (at_builtin;refine wpList_app_at rfl _ _ 30 rfl W.heap.size 37 i0 (.agg #[.int .i64 0,.int .i64 0,.int .i64 0,.string ⟨#[]⟩]) 4 40 Tryz.underlying30 hi0 hz0 hz1 hz2 rfl (by decide) fSe _ ss rfl HO6.out ⟨d.at_,0,0,d.id⟩ #[.int .i64 d.at_,.int .i64 0,.int .i64 0,.string d.id] 37 rfl rfl (by simp [Value.oneCell']) (by omega) (by omega) hB9 ?_;intro v1 WX o1 g1 b1 at1;have HOX:=Lib.hid o1;have HBX:=Lib.hid (HB6.out.trans b1);have HZX:=Lib.hid ((g1.block q (lt_of_heap HQ6.out) (fun e => HNA.out e.symm)).trans HQ6.out);clear o1 g1 b1 at1)
     have zx:=cell_h HZX.out 2 (v:=.int .i64 d.at_) rfl
     clear z6 z60 HO6 HB6 hB9 HQ6 HNA HZX
     obtain ⟨g,cp,rest,hvv,hlee,hBg,hgl,hmg,hk,hr⟩:=HOX.out.form (by simp)
     rw [show (ss ++ [(⟨d.at_,0,0,d.id⟩:SesD)]).length = ss.length + 1 by simp] at hvv hlee hr
     obtain ⟨k1,k2,hk2⟩:=ses_upd hk (d.at_ + 1)
     have f1:=hk.frozen (ss.length * 4 + 1)
     have f2:=hk.frozen (ss.length * 4 + 2)
     have hpl2:(ss.length:Int) < ss.length + 1:=by omega
     have b1:IntKind.i64.wrap (ss.length:Int) = (ss.length:Int):=IntWalk.i64_in _ (by omega)
     have b2:IntKind.i64.wrap (d.at_ + 1) = d.at_ + 1:=IntWalk.i64_in _ (by omega)
     have b3:IntKind.i64.wrap (((0:Nat):Int) + 1) = ((0:Nat):Int) + 1:=IntWalk.i64_in _ (by omega)
     have hg9:=vm_setc (vm_setc (World.grownBy.refl WX (some g)) (ss.length * 4 + 1) (.int .i64 (d.at_ + 1))) (ss.length * 4 + 2) (.int .i64 (((0:Nat):Int) + 1))
     have HBF:=Lib.hid (HBX.out.grown hg9 HBX.out.size (fun k hk => by injection hk with hk;omega))
     have HOF:=Lib.hid (Orow.of_blk (cap:=cp) hk2 hBg hmg (by simpa using hlee) (by simpa using hr))
     rw [show (ss ++ [(⟨(⟨d.at_,0,0,d.id⟩:SesD).fr,d.at_ + 1,(0:Nat) + 1,(⟨d.at_,0,0,d.id⟩:SesD).first⟩:SesD)]).length = ss.length + 1 by simp] at HOF
     subst hvv
     clear hk hr hk2 hg9 HOX HBX
     go_wp2_with fail
     go_roundw
     case rel => exact ⟨_,_,by omega,by go_num,HOF,HSN,HBF⟩
     case measure => simp [intOf];omega
    ·have dc:decide (gap < d.at_ - c.at_) = false:=by simp;omega
     have HSN:=Lib.hid (HMORE.out ss0 s hss)
     have hmany:s.many ≤ 1000:=by have:=HLS.out.2;omega
     subst hss
     (refine wp_region_det 14 71 (fun W => Below (W5).heap.size (W5) W) (by kernel_rfl) (by kernel_rfl) (by rfl) (Below.refl _ _).drew ?_;simp only [List.take_succ_cons,List.take_zero,List.drop_succ_cons,List.drop_zero])
     iterate 1 (refine detSeq_op rfl ?_ (fun W hW => ?_) ?_;rotate_left;(focus simp only [OpV];go_simp;first | exact rfl | exact ⟨rfl,hW⟩))
     (refine detSeq_op rfl (.bool false) (fun W hW => ?_) ?_;focus (simp only [OpV];go_simp;all_goals (first | exact rfl | exact hW | exact ⟨by rw [d1],hW⟩ | exact ⟨by simp;omega,hW⟩ | (intro h;omega))))
     iterate 1 (refine detSeq_op rfl ?_ (fun W hW => ?_) ?_;rotate_left;(focus simp only [OpV];go_simp;first | exact rfl | exact ⟨rfl,hW⟩))
     iterate 11 (refine detSeq_yes (by kernel_rfl) ?_ (fun W hW => ?_) ?_;rotate_left;(focus simp only [OpV];go_simp;first | exact rfl | exact ⟨rfl,hW⟩))
     refine detSeq_nil (fun WX hW6 => ?_)
     clear Q2
     have hl9:ss0.length ≤ 1000:=by have:=HLN.out;simp at this;omega
     have HBX:=Lib.hid (HBW.out.trans (hW6.mono HBW.out.size))
     have HOX:=Lib.hid (HO5.out.below hW6)
     have zx:=Z2 _ hW6
     clear hW6 Z2 HO5
     generalize hv2:Value.slice A7 (ss0 ++ [s]).length c7 = v1 at *
     clear hv2
     obtain ⟨g,cp,rest,hvv,hlee,hBg,hgl,hmg,hk,hr⟩:=HOX.out.form (by simp)
     rw [show (ss0 ++ [s]).length = ss0.length + 1 by simp] at hvv hlee hr
     obtain ⟨k1,k2,hk2⟩:=ses_upd hk (d.at_ + 1)
     have f1:=hk.frozen (ss0.length * 4 + 1)
     have f2:=hk.frozen (ss0.length * 4 + 2)
     have hpl2:(ss0.length:Int) < ss0.length + 1:=by omega
     have b1:IntKind.i64.wrap (ss0.length:Int) = (ss0.length:Int):=IntWalk.i64_in _ (by omega)
     have b2:IntKind.i64.wrap (d.at_ + 1) = d.at_ + 1:=IntWalk.i64_in _ (by omega)
     have b3:IntKind.i64.wrap ((s.many:Int) + 1) = (s.many:Int) + 1:=IntWalk.i64_in _ (by omega)
     have hg9:=vm_setc (vm_setc (World.grownBy.refl WX (some g)) (ss0.length * 4 + 1) (.int .i64 (d.at_ + 1))) (ss0.length * 4 + 2) (.int .i64 ((s.many:Int) + 1))
     have HBF:=Lib.hid (HBX.out.grown hg9 HBX.out.size (fun k hk => by injection hk with hk;omega))
     have HOF:=Lib.hid (Orow.of_blk (cap:=cp) hk2 hBg hmg (by simpa using hlee) (by simpa using hr))
     rw [show (ss0 ++ [(⟨s.fr,d.at_ + 1,s.many + 1,s.first⟩:SesD)]).length = ss0.length + 1 by simp] at HOF
     subst hvv
     clear hk hr hk2 hg9 HOX HBX
     go_wp2_with fail
     go_roundw
     case rel => exact ⟨_,_,by omega,by go_num,HOF,HSN,HBF⟩
     case measure => simp [intOf];omega
  ·have hie:i = es.length:=by omega
   subst hie
   subst hv
   have HF:Hid (SesPost es gap W (.returned (.tuple #[.slice A7 ss.length c7,.int .i64 0])) wr):=⟨_,ss,rfl,hO.out,hS.out,hb.out⟩
   go_wp2_with fail
   go_ret2
   exact HF.out
end Go.Proofs.YtfmnlpmgakgleaaGreatDoor
