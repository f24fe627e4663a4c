/- Texts of this claim, put together: CloneFd, CopyEv, CopyAll, Named. -/
import Derived.Test.YtfmnlpmgakgleaaGreatDoorGAH
import Derived.Test.YtfmnlpmgakgleaaGreatDoorGAD
import Derived.StillTailTactics
import Derived.Deep.Cut
import Derived.Test.YtfmnlpmgakgleaaGreatDoorGAL
import Derived.Laws.Rows
import Derived.Test.YtfmnlpmgakgleaaGreatDoorGAW
import Derived.Test.YtfmnlpmgakgleaaGreatDoorGAV
import Derived.Test.YtfmnlpmgakgleaaGreatDoorGAM
namespace Go.Proofs.YtfmnlpmgakgleaaGreatDoor
set_option linter.unusedVariables false
open Go.RowKit
theorem infoFd:(Tryz.prog.info? 119).map (fun i => (i.zero,i.size,i.bytes)) = some (some (.agg #[.string ⟨#[]⟩,.int .i64 0,.string ⟨#[]⟩,.int .i64 0]),4,48):=by kernel_rfl
section
variable {D:Type}
set_option maxHeartbeats 1000000 in
set_option maxRecDepth 100000 in
theorem clone_Fd (H:Frz) (f:D → Nat → Value) (ds:List D) (hf:∀ d ∈ ds,∀ m,(f d m).oneCell' = true) (A:Option Addr) (cap:Nat) (w:World) (hH:H.In w) (hR:Rw H A 4 f ds) (hl:ds.length ≤ 1000000) :
  Calls Tryz.prog 73 #[.slice A ds.length cap] w fun e w' => (∃ v,e = .returned v ∧ Orow w' w.heap.size 119 4 f v ds) ∧ Below w.heap.size w w':=by
 obtain ⟨i0,hi0,hz0,hz1,hz2⟩:=info_parts infoFd
 cases A with
 | none =>
  have hd:ds = []:=by
   cases ds with
   | nil => rfl
   | cons d ds => obtain ⟨b,off,e,_⟩:=hR 0 (by simp);cases e
  subst hd
  have hn:=fun wx => Lib.run_eql_slice_nil (P:=Tryz.prog) wx 40 119 none 0 cap 0 0 Tryz.underlying40
  clear hR hH hf
  go_enter Tryz.func73,Tryz.ntmps73
  go_wp2_with fail
  go_ret
  exact ⟨⟨_,rfl,Orow.nil _ _ _ _ _⟩,Below.refl _ _⟩
 | some ad =>
  have hnews:Hid (∀ j u,(cellsOf 4 f ds)[j]? = some u → w.cell? (ad.add j) = some u):=by
   intro j u hu
   have hj:j < ds.length * 4:=by have:=(List.getElem?_eq_some_iff.1 hu).1;rwa [cellsOf_len] at this
   obtain ⟨b,off,e,_,hc⟩:=hR.at_ hH (i:=j / 4) (by omega) (by omega)
   injection e with e
   subst e
   have h2:=hc (j % 4) (Nat.mod_lt _ (by omega))
   have h3:=cellsOf_get 4 f ds (j / 4) (j % 4) (by omega) (Nat.mod_lt _ (by omega))
   have e1:j / 4 * 4 + j % 4 = j:=by omega
   rw [e1,hu] at h3
   rw [Addr.add_lit,show off + j = off + j / 4 * 4 + j % 4 from by omega,h2]
   exact h3.symm
  have hone:Hid (∀ u ∈ cellsOf 4 f ds,u.oneCell' = true):=by
   intro u hu
   simp only [cellsOf,List.mem_flatMap,List.mem_map] at hu
   obtain ⟨d,hd,m,_,rfl⟩:=hu
   exact hf d hd m
  have hlen:=Lib.hid (cellsOf_len 4 f ds)
  have hn:=fun wx => Lib.run_eql_slice_nil (P:=Tryz.prog) wx 40 119 (some ad) ds.length cap 0 0 Tryz.underlying40
  have hown:Hid ((w.alloc (.cells #[] 119)).ownsRow w.heap.size 119 4 (.slice (some ⟨w.heap.size,0,none⟩) 0 0) 0 []):=⟨rfl,Or.inr ⟨w.heap.size,0,#[],rfl,Nat.le_refl _,heap_at rfl,Nat.le_refl _,Nat.zero_le _,rfl,rfl⟩⟩
  have hnews2:Hid (∀ j u,(cellsOf 4 f ds)[j]? = some u → (w.alloc (.cells #[] 119)).cell? (ad.add j) = some u):=fun j u hu => by
   have:=hnews.out j u hu
   exact (World.cell?_alloc_lt w _ _ (World.block_lt_of_cell? w _ this)).trans this
  clear hR hH hf hnews
  go_enter Tryz.func73,Tryz.ntmps73
  go_wp2_with (at_builtin;refine wpList_append_own _ rfl _ _ 40 rfl w.heap.size 119 i0 (.agg #[.string ⟨#[]⟩,.int .i64 0,.string ⟨#[]⟩,.int .i64 0]) 4 48 Tryz.underlying40 hi0 hz0 hz1 hz2 rfl (by decide) (.slice (some ⟨w.heap.size,0,none⟩) 0 0) 0 [] rfl hown.out ad ds.length cap (cellsOf 4 f ds) rfl hlen.out hnews2.out hone.out (by simp only [maxLen];omega) (by omega) (by simp) ?_;intro v1 w2 o1 g1 b1)
  have O1:Hid (Orow w2 w.heap.size 119 4 f v1 ds):=by
   show World.ownsRow _ _ _ _ _ _ _
   simpa using o1
  have B1:Hid (Below w.heap.size w w2):=((Below.refl _ w).alloc (Nat.le_refl _) _).grown g1 (by simp) (fun q hq => by simp [Value.ownBlock] at hq;omega)
  clear o1 g1 b1
  go_wp2_with fail
  go_ret
  exact ⟨⟨_,rfl,O1.out⟩,B1.out⟩
end
open Go.RowKit
def CopyEvP (d:EvD) (w:World) (e:Ending) (w':World):Prop:=∃ v,e = .returned (.agg #[.string d.id,.string d.name,.int .i64 d.at_,.int .i64 d.kind,.string d.text,v]) ∧ Orow w' w.heap.size 119 4 fFd v d.fields ∧ Below w.heap.size w w'
theorem fFd_one (d:FD) (m:Nat):(fFd d m).oneCell' = true:=by
 match m with
 | 0 => rfl
 | 1 => rfl
 | 2 => rfl
 | m + 3 => rfl
set_option maxHeartbeats 4000000 in
set_option maxRecDepth 100000 in
theorem copyEv_any (H:Frz) (d:EvD) (w:World) (hH:H.In w) (hd:EvIn H d):Calls Tryz.prog 75 #[.agg #[.string d.id,.string d.name,.int .i64 d.at_,.int .i64 d.kind,.string d.text,.slice d.fa d.fields.length d.fc]] w (CopyEvP d w):=by
 have h1:=heap_alloc_new w (.cells #[.string d.id,.string d.name,.int .i64 d.at_,.int .i64 d.kind,.string d.text,.slice d.fa d.fields.length d.fc] 42)
 have hb1:=new1 (w:=w) (.cells #[.string d.id,.string d.name,.int .i64 d.at_,.int .i64 d.kind,.string d.text,.slice d.fa d.fields.length d.fc] 42)
 have hb2:=new1 (w:=w.alloc (.cells #[.string d.id,.string d.name,.int .i64 d.at_,.int .i64 d.kind,.string d.text,.slice d.fa d.fields.length d.fc] 42)) (.cells #[.string ⟨#[]⟩,.string ⟨#[]⟩,.int .i64 0,.int .i64 0,.string ⟨#[]⟩,.slice none 0 0] 42)
 have HZ:Hid (((w.alloc (.cells #[.string d.id,.string d.name,.int .i64 d.at_,.int .i64 d.kind,.string d.text,.slice d.fa d.fields.length d.fc] 42)).alloc (.cells #[.string ⟨#[]⟩,.string ⟨#[]⟩,.int .i64 0,.int .i64 0,.string ⟨#[]⟩,.slice none 0 0] 42)).heap[w.heap.size + 1]? = some (.cells #[.string ⟨#[]⟩,.string ⟨#[]⟩,.int .i64 0,.int .i64 0,.string ⟨#[]⟩,.slice none 0 0] 42 (0,0))):=heap_at (by simp)
 have HT:=Lib.hid ((hb2.block _ (lt_of_heap h1)).trans h1)
 have HBN:=Lib.hid (hb1.trans (hb2.mono hb1.size))
 have HCL:=Lib.hid (fun W (hW:H.In W) => clone_Fd H fFd d.fields (fun d _ m => fFd_one d m) d.fa d.fc W hW hd.fds (by have:=hd.fl;omega))
 have HIN:=Lib.hid (hH.below HBN.out)
 clear h1 hb1 hb2 hH hd
 go_enter Tryz.func75,Tryz.ntmps75
 go_upto_region 1 with (fail)
 generalize (w.alloc (.cells #[.string d.id,.string d.name,.int .i64 d.at_,.int .i64 d.kind,.string d.text,.slice d.fa d.fields.length d.fc] 42)).alloc (.cells #[.string ⟨#[]⟩,.string ⟨#[]⟩,.int .i64 0,.int .i64 0,.string ⟨#[]⟩,.slice none 0 0] 42) = W1 at *
 have c5:=cell_h HT.out 5 (v:=.slice d.fa d.fields.length d.fc) rfl
 have hsz:w.heap.size + 1 < W1.heap.size:=lt_of_heap HZ.out
 go_wp2_with (fail)
 refine (HCL.out W1 HIN.out).mono ?_
 rintro e W2 ⟨⟨v,rfl,hO⟩,hb⟩
 obtain ⟨A5,k5,rfl,-⟩:=hO.slice
 have ht:=(hb.block _ (lt_of_heap HT.out)).trans HT.out
 have hz:=(hb.block _ (lt_of_heap HZ.out)).trans HZ.out
 have HO:=Lib.hid hO
 have HB:=Lib.hid (HBN.out.trans (hb.mono HBN.out.size))
 generalize hq:w.heap.size = q at *
 have HQ:=Lib.hid hq
 clear hq
 have m0:=cell_h ht 0 (v:=.string d.id) rfl
 have m1:=cell_h ht 1 (v:=.string d.name) rfl
 have m2:=cell_h ht 2 (v:=.int .i64 d.at_) rfl
 have m3:=cell_h ht 3 (v:=.int .i64 d.kind) rfl
 have m4:=cell_h ht 4 (v:=.string d.text) rfl
 have m5:=cell_h ht 5 (v:=.slice d.fa d.fields.length d.fc) rfl
 have g5:=froz_h ht 5
 have f0:=froz_h hz 0
 have f1:=froz_h hz 1
 have f2:=froz_h hz 2
 have f3:=froz_h hz 3
 have f4:=froz_h hz 4
 have f5:=froz_h hz 5
 have k0:=cell_h hz 0 (v:=.string ⟨#[]⟩) rfl
 have k1:=cell_h hz 1 (v:=.string ⟨#[]⟩) rfl
 have k2:=cell_h hz 2 (v:=.int .i64 0) rfl
 have k3:=cell_h hz 3 (v:=.int .i64 0) rfl
 have k4:=cell_h hz 4 (v:=.string ⟨#[]⟩) rfl
 have k6:=cell_h hz 5 (v:=.slice none 0 0) rfl
 have HZ2:Hid ((W2.setCell ⟨q,5,none⟩ (.slice A5 d.fields.length k5)).heap[q + 1]? = some (.cells #[.string ⟨#[]⟩,.string ⟨#[]⟩,.int .i64 0,.int .i64 0,.string ⟨#[]⟩,.slice none 0 0] 42 (0,0))):=(Below.heap_setCell W2 _ _ (q + 1) (by simp)).trans hz
 have G1:=Lib.hid (vm_setc (World.grownBy.refl W2 (some q)) 5 (.slice A5 d.fields.length k5))
 clear c5 ht hz hb hO HCL
 go_wp2_with fail
 (try simp only [Exit.inBlock,Exit.then])
 obtain ⟨hg9,hh9⟩:=em_set6 HZ2.out (.string d.id) (.string d.name) (.int .i64 d.at_) (.int .i64 d.kind) (.string d.text) (.slice A5 d.fields.length k5)
 refine bodyPost_ret (results_cell_row rfl _ _ (q + 1) 42 _ (0,0) _ rfl hh9 Tryz.underlying42 rfl (by kernel_rfl)) rfl ?_
 rw [← HQ.out] at hg9
 have hlo:=fun g (e:(Value.slice A5 d.fields.length k5).ownBlock = some g) => (HO.out.lt e).1
 refine ⟨_,rfl,?_,?_⟩
 ·have o1:=HO.out.kept G1.out (Or.inr (fun e => by have:=hlo _ e;have:=HQ.out;omega))
  rw [HQ.out] at hg9
  have o2:=o1.kept hg9 (Or.inr (fun e => by have:=hlo _ e;have:=HQ.out;omega))
  exact o2.mono (by have:=HQ.out;omega)
 ·have b1:=HB.out.grown G1.out (by have:=HB.out.size;have:=HQ.out;omega) (fun k hk => by injection hk with hk;omega)
  rw [HQ.out] at hg9
  have b2:=b1.grown hg9 (by have:=b1.size;have:=HQ.out;omega) (fun k hk => by injection hk with hk;omega)
  rw [HQ.out]
  exact b2
open Go.RowKit
def SameE (a b:EvD):Prop:=a.id = b.id ∧ a.name = b.name ∧ a.at_ = b.at_ ∧ a.kind = b.kind ∧ a.text = b.text ∧ a.fields = b.fields
theorem SameE.refl (a:EvD):SameE a a:=⟨rfl,rfl,rfl,rfl,rfl,rfl⟩
def FdOwn (w:World) (B:Nat) (d:EvD):Prop:=Orow w B 119 4 fFd (.slice d.fa d.fields.length d.fc) d.fields
structure CAs (es cur:List EvD) (i B:Nat) (v:Value) (w:World):Prop where
 row:Orow w B 42 6 fEv v cur
 len:cur.length = es.length
 high:∀ j:Nat,i ≤ j → cur[j]? = es[j]?
 low:∀ (j:Nat) (a b:EvD),j < i → es[j]? = some a → cur[j]? = some b → SameE a b ∧ FdOwn w B b
section
variable {es cur:List EvD} {i B:Nat} {v:Value} {w w':World}
theorem CAs.start (h:Orow w B 42 6 fEv v es):CAs es es 0 B v w:=⟨h,rfl,fun _ _ => rfl,fun j _ _ hj => by omega⟩
theorem CAs.call (h:CAs es cur i B v w) (hb:Below w.heap.size w w'):CAs es cur i B v w' :=
 ⟨h.row.below hb,h.len,h.high,fun j a b hj h1 h2 => ⟨(h.low j a b hj h1 h2).1,Orow.below (h.low j a b hj h1 h2).2 hb⟩⟩
theorem CAs.put {g cp:Nat} {d:EvD} {A6:Option Addr} {k6:Nat} (h:CAs es cur i B (.slice (some ⟨g,0,none⟩) es.length cp) w) (hi:i < es.length) (hd:es[i]? = some d) (o:Orow w B 119 4 fFd (.slice A6 d.fields.length k6) d.fields) :
  CAs es (cur.set i ⟨d.id,d.name,d.at_,d.kind,d.text,A6,k6,d.fields⟩) (i + 1) B (.slice (some ⟨g,0,none⟩) es.length cp) (setK w g (i * 6) ((List.range 6).map (fEv ⟨d.id,d.name,d.at_,d.kind,d.text,A6,k6,d.fields⟩))) ∧ w.grownBy (setK w g (i * 6) ((List.range 6).map (fEv ⟨d.id,d.name,d.at_,d.kind,d.text,A6,k6,d.fields⟩))) (some g) ∧ B ≤ g:=by
 have hlc:i < cur.length:=by rw [h.len];exact hi
 obtain ⟨g',cp',rest,hv,hle,hBg,hgl,hmg,hk,hr⟩:=h.row.form (by intro e;subst e;simp at hlc)
 rw [h.len] at hv
 simp only [Value.slice.injEq,true_and,Option.some.injEq,Addr.mk.injEq,and_true] at hv
 obtain ⟨rfl,rfl⟩:=hv
 have hp:=hk.put i hlc ⟨d.id,d.name,d.at_,d.kind,d.text,A6,k6,d.fields⟩
 have hg:=setK_grown (i * 6) ((List.range 6).map (fEv ⟨d.id,d.name,d.at_,d.kind,d.text,A6,k6,d.fields⟩)) (World.grownBy.refl w (some g))
 have hkeep:∀ b:EvD,FdOwn w B b → FdOwn (setK w g (i * 6) ((List.range 6).map (fEv ⟨d.id,d.name,d.at_,d.kind,d.text,A6,k6,d.fields⟩))) B b:=fun b hb => Orow.kept hb hg (Or.inr (Orow.not_at hb hk (by decide)))
 refine ⟨⟨?_,by simp [h.len],fun j hj => ?_,fun j a b hj h1 h2 => ?_⟩,hg,hBg⟩
 ·have:=Orow.of_blk (cap:=cp) hp hBg hmg (by simpa using hle) (by simpa using hr)
  rw [show (cur.set i ⟨d.id,d.name,d.at_,d.kind,d.text,A6,k6,d.fields⟩).length = es.length by simp [h.len]] at this
  exact this
 ·rw [List.getElem?_set_ne (by omega)]
  exact h.high j (by omega)
 ·by_cases c:j = i
  ·subst c
   rw [List.getElem?_set_self hlc] at h2
   rw [hd] at h1
   injection h1 with h1
   injection h2 with h2
   subst h1 h2
   exact ⟨⟨rfl,rfl,rfl,rfl,rfl,rfl⟩,hkeep _ o⟩
  ·rw [List.getElem?_set_ne (by omega)] at h2
   have:=h.low j a b (by omega) h1 h2
   exact ⟨this.1,hkeep _ this.2⟩
theorem CAs.done (h:CAs es cur es.length B v w):∀ (j:Nat) (a b:EvD),es[j]? = some a → cur[j]? = some b → SameE a b ∧ FdOwn w B b:=fun j a b h1 h2 => h.low j a b (List.getElem?_eq_some_iff.1 h1).1 h1 h2
end
def CopyAllP (es:List EvD) (w:World) (e:Ending) (w':World):Prop:=∃ v cur,e = .returned v ∧ CAs es cur es.length w.heap.size v w' ∧ Below w.heap.size w w'
set_option maxHeartbeats 8000000 in
set_option maxRecDepth 100000 in
theorem copyAll_any (H:Frz) (A:Option Addr) (cap:Nat) (es:List EvD) (w:World) (hH:H.In w) (hR:Rw H A 6 fEv es) (hI:∀ d ∈ es,EvIn H d) (hl:es.length ≤ 1000000) :
  Calls Tryz.prog 51 #[.slice A es.length cap] w (CopyAllP es w):=by
 have HC:=Lib.hid (clone_Ev H fEv es (fun d _ m => fEv_one d m) A cap w hH hR hl)
 have HCE:=Lib.hid (fun d (hd:d ∈ es) W (hW:H.In W) => copyEv_any H d W hW (hI d hd))
 have HH:=Lib.hid hH
 clear hH hR hI
 go_enter Tryz.func51,Tryz.ntmps51
 go_wp2_with fail
 refine HC.out.mono ?_
 rintro e w1 ⟨⟨v,rfl,hO⟩,hb⟩
 have HB:=Lib.hid hb
 have HS:=Lib.hid (CAs.start hO)
 obtain ⟨A9,c9,rfl,-⟩:=hO.slice
 clear HC hb hO
 go_wp2_with fail
 go_loopw [10] (fun t wr => ∃ (i:Nat) (cur:List EvD),i ≤ es.length ∧ t = .int .i64 i ∧ Hid (CAs es cur i w.heap.size (.slice A9 es.length c9) wr) ∧ Hid (Below w.heap.size w wr)) (fun t _ => es.length - (intOf t).toNat)
 case atStart => exact ⟨0,es,by omega,rfl,HS,HB⟩
 case round =>
  obtain ⟨i,cur,hi,rfl,hS,hb⟩:=hrel
  clear HB HS
  by_cases hlt:i < es.length
  ·have hlc:i < cur.length:=by rw [hS.out.len];exact hlt
   obtain ⟨g,cp,rest,hv,hle,hBg,hgl,hmg,hk,hr⟩:=hS.out.row.form (by intro e;subst e;simp at hlc)
   rw [hS.out.len] at hv
   simp only [Value.slice.injEq,true_and] at hv
   obtain ⟨rfl,rfl⟩:=hv
   have he:cur[i] = es[i]:=by
    have:=hS.out.high i (Nat.le_refl _)
    rw [List.getElem?_eq_getElem hlc,List.getElem?_eq_getElem hlt] at this
    exact Option.some.inj this
   have hit:(i:Int) < es.length:=by omega
   have c0:wr.cell? ⟨g,i * 6,none⟩ = some (.string es[i].id):=he ▸ hk.cell i 0 hlc (by omega)
   have c1:wr.cell? ⟨g,i * 6 + 1,none⟩ = some (.string es[i].name):=he ▸ hk.cell i 1 hlc (by omega)
   have c2:wr.cell? ⟨g,i * 6 + 2,none⟩ = some (.int .i64 es[i].at_):=he ▸ hk.cell i 2 hlc (by omega)
   have c3:wr.cell? ⟨g,i * 6 + 3,none⟩ = some (.int .i64 es[i].kind):=he ▸ hk.cell i 3 hlc (by omega)
   have c4:wr.cell? ⟨g,i * 6 + 4,none⟩ = some (.string es[i].text):=he ▸ hk.cell i 4 hlc (by omega)
   have c5:wr.cell? ⟨g,i * 6 + 5,none⟩ = some (.slice es[i].fa es[i].fields.length es[i].fc):=he ▸ hk.cell i 5 hlc (by omega)
   have HCD:=Lib.hid (HCE.out _ (List.getElem_mem hlt))
   have HEI:Hid (es[i]? = some es[i]):=List.getElem?_eq_getElem hlt
   clear hk hr he
   generalize es[i] = d at *
   have z0:(wr.alloc (.cells #[.string d.id,.string d.name,.int .i64 d.at_,.int .i64 d.kind,.string d.text,.slice d.fa d.fields.length d.fc] 42)).cell? ⟨wr.heap.size,0,none⟩ = some (.string d.id):=newc 0 rfl
   have z1:(wr.alloc (.cells #[.string d.id,.string d.name,.int .i64 d.at_,.int .i64 d.kind,.string d.text,.slice d.fa d.fields.length d.fc] 42)).cell? ⟨wr.heap.size,1,none⟩ = some (.string d.name):=newc 1 rfl
   have z2:(wr.alloc (.cells #[.string d.id,.string d.name,.int .i64 d.at_,.int .i64 d.kind,.string d.text,.slice d.fa d.fields.length d.fc] 42)).cell? ⟨wr.heap.size,2,none⟩ = some (.int .i64 d.at_):=newc 2 rfl
   have z3:(wr.alloc (.cells #[.string d.id,.string d.name,.int .i64 d.at_,.int .i64 d.kind,.string d.text,.slice d.fa d.fields.length d.fc] 42)).cell? ⟨wr.heap.size,3,none⟩ = some (.int .i64 d.kind):=newc 3 rfl
   have z4:(wr.alloc (.cells #[.string d.id,.string d.name,.int .i64 d.at_,.int .i64 d.kind,.string d.text,.slice d.fa d.fields.length d.fc] 42)).cell? ⟨wr.heap.size,4,none⟩ = some (.string d.text):=newc 4 rfl
   have z5:(wr.alloc (.cells #[.string d.id,.string d.name,.int .i64 d.at_,.int .i64 d.kind,.string d.text,.slice d.fa d.fields.length d.fc] 42)).cell? ⟨wr.heap.size,5,none⟩ = some (.slice d.fa d.fields.length d.fc):=newc 5 rfl
   have HBN:=Lib.hid (new1 (w:=wr) (.cells #[.string d.id,.string d.name,.int .i64 d.at_,.int .i64 d.kind,.string d.text,.slice d.fa d.fields.length d.fc] 42))
   have HS5:=Lib.hid (hS.out.call HBN.out)
   have HIN5:=Lib.hid (HH.out.below (hb.out.trans (HBN.out.mono hb.out.size)))
   have HB5:=Lib.hid (hb.out.trans (HBN.out.mono hb.out.size))
   clear HBN hb hS
   go_upto_region 5 with (fail)
   clear c0 c1 c2 c3 c4 c5
   generalize wr.alloc (.cells #[.string d.id,.string d.name,.int .i64 d.at_,.int .i64 d.kind,.string d.text,.slice d.fa d.fields.length d.fc] 42) = W5 at *
   go_wp2_with fail
   refine (HCD.out W5 HIN5.out).mono ?_
   rintro e W6 ⟨v6,rfl,hO6,hb6⟩
   obtain ⟨A6,k6,rfl,-⟩:=hO6.slice
   have HS6:=Lib.hid (HS5.out.call hb6)
   have HB6:=Lib.hid (HB5.out.trans (hb6.mono HB5.out.size))
   have HO6:Hid (Orow W6 w.heap.size 119 4 fFd (.slice A6 d.fields.length k6) d.fields):=hO6.mono HB5.out.size
   clear hb6 hO6 HS5 z0 z1 z2 z3 z4 z5
   obtain ⟨g',cp',rest',hv',hle',hBg',hgl',hmg',hk',hr'⟩:=HS6.out.row.form (by intro e;subst e;simp at hlc)
   rw [HS6.out.len] at hv'
   simp only [Value.slice.injEq,true_and,Option.some.injEq,Addr.mk.injEq,and_true] at hv'
   obtain ⟨rfl,rfl⟩:=hv'
   obtain ⟨hs9,hg9,-⟩:=HS6.out.put hlt HEI.out HO6.out
   have HSN:=Lib.hid hs9
   have HBN9:=Lib.hid (HB6.out.grown hg9 HB6.out.size (fun k hk => by injection hk with hk;omega))
   have r0:=hk'.cell i 0 hlc (by omega)
   have s0:=hk'.frozen (i * 6)
   have r1:=hk'.cell i 1 hlc (by omega)
   have s1:=hk'.frozen (i * 6 + 1)
   have r2:=hk'.cell i 2 hlc (by omega)
   have s2:=hk'.frozen (i * 6 + 2)
   have r3:=hk'.cell i 3 hlc (by omega)
   have s3:=hk'.frozen (i * 6 + 3)
   have r4:=hk'.cell i 4 hlc (by omega)
   have s4:=hk'.frozen (i * 6 + 4)
   have r5:=hk'.cell i 5 hlc (by omega)
   have s5:=hk'.frozen (i * 6 + 5)
   simp only [Nat.add_zero] at r0
   clear hk' hr' hs9 hg9
   go_wp2_with fail
   go_roundw
   case rel => exact ⟨i + 1,_,by omega,by go_num,HSN,HBN9⟩
   case measure => simp [intOf];omega
  ·have hie:i = es.length:=by omega
   subst hie
   have HF:Hid (CopyAllP es w (.returned (.slice A9 es.length c9)) wr):=⟨_,cur,rfl,hS.out,hb.out⟩
   go_wp2_with fail
   go_ret
   exact HF.out
open Go.RowKit
structure WinD where
 fr:Int
 til:Int
def inW (name:ByteArray) (x:WinD) (d:EvD):Bool:=(d.name.toList == name.toList) && (decide (x.fr ≤ d.at_) && decide (d.at_ < x.til))
def namedF (es:List EvD) (name:ByteArray) (x:WinD):List EvD:=es.filter (inW name x)
theorem namedF_succ {es:List EvD} {name:ByteArray} {x:WinD} {i:Nat} (h:i < es.length):namedF (es.take (i + 1)) name x = if inW name x es[i] = true then namedF (es.take i) name x ++ [es[i]] else namedF (es.take i) name x:=by
 unfold namedF
 rw [List.take_succ_eq_append_getElem h,List.filter_append]
 by_cases c:inW name x es[i] = true
 ·rw [if_pos c];simp [c]
 ·rw [if_neg c]
  rw [Bool.not_eq_true] at c
  simp [c]
def NamedP (es:List EvD) (name:ByteArray) (x:WinD) (w:World) (e:Ending) (w':World):Prop:=∃ v,e = .returned v ∧ Orow w' w.heap.size 42 6 fEv v (namedF es name x) ∧ Below w.heap.size w w'
set_option maxHeartbeats 4000000 in
set_option maxRecDepth 100000 in
theorem named_any (H:Frz) (A:Option Addr) (cap:Nat) (es:List EvD) (name:ByteArray) (x:WinD) (w:World) (hH:H.In w) (hR:Rw H A 6 fEv es) (hl:es.length ≤ 1000000) :
  Calls Tryz.prog 52 #[.slice A es.length cap,.string name,.agg #[.int .i64 x.fr,.int .i64 x.til]] w (NamedP es name x w):=by
 obtain ⟨i0,hi0,hz0,hz1,hz2⟩:=info_parts infoEv9
 have HR:=Lib.hid hR
 have HW:=Lib.hid (heap_alloc_new w (.cells #[.int .i64 x.fr,.int .i64 x.til] 35))
 have HB0:=Lib.hid (new1 (w:=w) (.cells #[.int .i64 x.fr,.int .i64 x.til] 35))
 have HH:=Lib.hid hH
 have HO0:Hid (Orow (w.alloc (.cells #[.int .i64 x.fr,.int .i64 x.til] 35)) w.heap.size 42 6 fEv (.slice none 0 0) []):=Orow.nil _ _ _ _ _
 clear hR hH
 go_enter Tryz.func52,Tryz.ntmps52
 go_upto_region 1 with (fail)
 generalize w.alloc (.cells #[.int .i64 x.fr,.int .i64 x.til] 35) = W1 at *
 go_wp2_with fail
 go_loopw [7,12] (fun tv t wr => ∃ i:Nat,i ≤ es.length ∧ t = .int .i64 i ∧ Hid (Orow wr w.heap.size 42 6 fEv tv (namedF (es.take i) name x)) ∧ Hid (Below w.heap.size w wr) ∧ Hid (wr.heap[w.heap.size]? = some (.cells #[.int .i64 x.fr,.int .i64 x.til] 35))) (fun _ t _ => es.length - (intOf t).toNat)
 case atStart => exact ⟨0,by omega,rfl,HO0,HB0,HW⟩
 case round =>
  obtain ⟨i,hi,rfl,hO,hb,hx⟩:=hrel
  clear HO0 HB0 HW
  have hnl:(namedF (es.take i) name x).length ≤ 1000000:=by
   have:=List.length_filter_le (inW name x) (es.take i)
   unfold namedF
   simp at this
   omega
  by_cases hlt:i < es.length
  ·obtain ⟨A7,c7,hv,hle⟩:=hO.out.slice
   subst hv
   have hin:=HH.out.below hb.out
   obtain ⟨b,off,rfl,hbl,hc⟩:=HR.out.at_ hin hlt (by omega)
   have c0:wr.cell? ⟨b,off + i * 6,none⟩ = some (.string es[i].id):=hc 0 (by omega)
   have c1:wr.cell? ⟨b,off + i * 6 + 1,none⟩ = some (.string es[i].name):=hc 1 (by omega)
   have c2:wr.cell? ⟨b,off + i * 6 + 2,none⟩ = some (.int .i64 es[i].at_):=hc 2 (by omega)
   have c3:wr.cell? ⟨b,off + i * 6 + 3,none⟩ = some (.int .i64 es[i].kind):=hc 3 (by omega)
   have c4:wr.cell? ⟨b,off + i * 6 + 4,none⟩ = some (.string es[i].text):=hc 4 (by omega)
   have c5:wr.cell? ⟨b,off + i * 6 + 5,none⟩ = some (.slice es[i].fa es[i].fields.length es[i].fc):=hc 5 (by omega)
   have HNX:=Lib.hid (namedF_succ (name:=name) (x:=x) hlt)
   clear hc hin
   generalize es[i] = d at *
   generalize namedF (es.take i) name x = nf at *
   have z0:(wr.alloc (.cells #[.string d.id,.string d.name,.int .i64 d.at_,.int .i64 d.kind,.string d.text,.slice d.fa d.fields.length d.fc] 42)).cell? ⟨wr.heap.size,0,none⟩ = some (.string d.id):=newc 0 rfl
   have z1:(wr.alloc (.cells #[.string d.id,.string d.name,.int .i64 d.at_,.int .i64 d.kind,.string d.text,.slice d.fa d.fields.length d.fc] 42)).cell? ⟨wr.heap.size,1,none⟩ = some (.string d.name):=newc 1 rfl
   have z2:(wr.alloc (.cells #[.string d.id,.string d.name,.int .i64 d.at_,.int .i64 d.kind,.string d.text,.slice d.fa d.fields.length d.fc] 42)).cell? ⟨wr.heap.size,2,none⟩ = some (.int .i64 d.at_):=newc 2 rfl
   have z3:(wr.alloc (.cells #[.string d.id,.string d.name,.int .i64 d.at_,.int .i64 d.kind,.string d.text,.slice d.fa d.fields.length d.fc] 42)).cell? ⟨wr.heap.size,3,none⟩ = some (.int .i64 d.kind):=newc 3 rfl
   have z4:(wr.alloc (.cells #[.string d.id,.string d.name,.int .i64 d.at_,.int .i64 d.kind,.string d.text,.slice d.fa d.fields.length d.fc] 42)).cell? ⟨wr.heap.size,4,none⟩ = some (.string d.text):=newc 4 rfl
   have z5:(wr.alloc (.cells #[.string d.id,.string d.name,.int .i64 d.at_,.int .i64 d.kind,.string d.text,.slice d.fa d.fields.length d.fc] 42)).cell? ⟨wr.heap.size,5,none⟩ = some (.slice d.fa d.fields.length d.fc):=newc 5 rfl
   have HBN:=Lib.hid (new1 (w:=wr) (.cells #[.string d.id,.string d.name,.int .i64 d.at_,.int .i64 d.kind,.string d.text,.slice d.fa d.fields.length d.fc] 42))
   have hx5:=(HBN.out.block _ (lt_of_heap hx.out)).trans hx.out
   have HX5:=Lib.hid hx5
   have x0:=cell_h hx5 0 (v:=.int .i64 x.fr) rfl
   have x1:=cell_h hx5 1 (v:=.int .i64 x.til) rfl
   have HO5:=Lib.hid (hO.out.below HBN.out)
   have HB5:=Lib.hid (hb.out.trans (HBN.out.mono hb.out.size))
   have HNA:=Lib.hid (HO5.out.not_at hx5 (by decide))
   have hB9:=HB5.out.size
   clear HBN hO hb hx hx5
   go_upto_region 5 with (fail)
   clear c0 c1 c2 c3 c4 c5
   generalize wr.alloc (.cells #[.string d.id,.string d.name,.int .i64 d.at_,.int .i64 d.kind,.string d.text,.slice d.fa d.fields.length d.fc] 42) = W5 at *
   generalize wr.heap.size = q at *
   unfold inW at HNX
   generalize hk1:(d.name.toList == name.toList) = k1 at HNX
   generalize hk2:decide (x.fr ≤ d.at_) = k2 at HNX
   generalize hk3:decide (d.at_ < x.til) = k3 at HNX
   have HSAME:Hid ((k1 && (k2 && k3)) = false → namedF (es.take (i + 1)) name x = nf):=fun h => by have:=HNX.out;rw [h] at this;simpa using this
   have HMORE:Hid ((k1 && (k2 && k3)) = true → namedF (es.take (i + 1)) name x = nf ++ [d]):=fun h => by have:=HNX.out;rw [h] at this;simpa using this
   clear HNX
   cases k1 with
   | false =>
    have HE:=Lib.hid (HSAME.out rfl)
    clear HSAME HMORE
    go_wp2_with fail
    go_roundw
    case rel => exact ⟨i + 1,by omega,by go_num,by rw [HE.out];exact HO5.out,HB5,HX5⟩
    case measure => simp [intOf];omega
   | true =>
    cases k2 with
    | false =>
     have HE:=Lib.hid (HSAME.out rfl)
     clear HSAME HMORE
     go_wp2_with fail
     go_roundw
     case rel => exact ⟨i + 1,by omega,by go_num,by rw [HE.out];exact HO5.out,HB5,HX5⟩
     case measure => simp [intOf];omega
    | true =>
     cases k3 with
     | false =>
      have HE:=Lib.hid (HSAME.out rfl)
      clear HSAME HMORE
      go_wp2_with fail
      go_roundw
      case rel => exact ⟨i + 1,by omega,by go_num,by rw [HE.out];exact HO5.out,HB5,HX5⟩
      case measure => simp [intOf];omega
     | true =>
      have HE:=Lib.hid (HMORE.out rfl)
      clear HSAME HMORE
      generalize hv2:Value.slice A7 nf.length c7 = v2 at *
      clear hv2
      go_wp2_with (at_builtin;refine wpList_app_at rfl _ _ 26 rfl w.heap.size 42 i0 (.agg #[.string ⟨#[]⟩,.string ⟨#[]⟩,.int .i64 0,.int .i64 0,.string ⟨#[]⟩,.slice none 0 0]) 6 88 Tryz.underlying26 hi0 hz0 hz1 hz2 rfl (by decide) fEv _ nf rfl HO5.out d #[.string d.id,.string d.name,.int .i64 d.at_,.int .i64 d.kind,.string d.text,.slice d.fa d.fields.length d.fc] 42 rfl rfl (by simp [Value.oneCell']) (by omega) (by omega) hB9 ?_;intro v1 w2 o1 g1 b1 at1;have HOX:=Lib.hid o1;have HBX:=Lib.hid (HB5.out.trans b1);have HXX:=Lib.hid ((g1.block _ (lt_of_heap HX5.out) (fun e => HNA.out e.symm)).trans HX5.out);clear o1 g1 b1 at1)
      go_roundw
      case rel => exact ⟨i + 1,by omega,by go_num,by rw [HE.out];exact HOX.out,HBX,HXX⟩
      case measure => simp [intOf];omega
  ·have hie:i = es.length:=by omega
   subst hie
   obtain ⟨A7,c7,hv,hle⟩:=hO.out.slice
   have HO9:=hO.out
   rw [List.take_length] at HO9
   have HF:Hid (NamedP es name x w (.returned (.slice A7 (namedF (es.take es.length) name x).length c7)) wr):=⟨_,rfl,hv ▸ HO9,hb.out⟩
   subst hv
   clear hO hb hx
   go_wp2_with fail
   go_ret
   exact HF.out
end Go.Proofs.YtfmnlpmgakgleaaGreatDoor
