/- Texts of this claim, put together: SameEv, IntRow, RowsA, NewH. -/
import Derived.Test.YtfmnlpmgakgleaaGreatDoorGBA
import Derived.Test.YtfmnlpmgakgleaaGreatDoorGAH
import Derived.Test.YtfmnlpmgakgleaaGreatDoorGAG
import Derived.Test.YtfmnlpmgakgleaaGreatDoorShelf
import Derived.Sort.OwnSortedInts
import Derived.Shelf.Slices.In.SortNone
import Derived.Test.YtfmnlpmgakgleaaGreatDoorGAE
import Derived.Laws.OwnMore
import Derived.Test.YtfmnlpmgakgleaaGreatDoorGAC
namespace Go.Proofs.YtfmnlpmgakgleaaGreatDoor
set_option linter.unusedVariables false
open Go.RowKit
set_option maxHeartbeats 2000000 in
set_option maxRecDepth 100000 in
theorem equal_Fd (H:Frz) (A:Option Addr) (cap:Nat) (A2:Option Addr) (cap2:Nat) (ds:List FD) (w:World) (hH:H.In w) (hR:Rw H A 4 fFd ds) (hR2:Rw H A2 4 fFd ds) (hl:ds.length ≤ 1000000) :
  Calls Tryz.prog 116 #[.slice A ds.length cap,.slice A2 ds.length cap2] w fun e w' => e = .returned (.bool true) ∧ Below w.heap.size w w':=by
 have HR:=Lib.hid hR
 have HR2:=Lib.hid hR2
 have HIN:=Lib.hid hH
 have k0:((ds.length:Int) != (ds.length:Int)) = false:=by simp
 clear hR hR2 hH
 go_enter Tryz.func116,Tryz.ntmps116
 go_wp2_with fail
 clear k0
 go_loopw [5,13] (fun _ t wr => ∃ i:Nat,i ≤ ds.length ∧ t = .int .i64 i ∧ Hid (Below w.heap.size w wr)) (fun _ t _ => ds.length - (intOf t).toNat)
 case atStart => exact ⟨0,by omega,rfl,Below.refl _ _⟩
 case round =>
  obtain ⟨i,hi,rfl,hb⟩:=hrel
  by_cases hlt:i < ds.length
  ·obtain ⟨b,off,rfl,hbl,hc⟩:=HR.out.at_ (HIN.out.below hb.out) hlt (by omega)
   obtain ⟨b2,off2,rfl,hbl2,hd⟩:=HR2.out.at_ (HIN.out.below hb.out) hlt (by omega)
   have c0:wr.cell? ⟨b,off + i * 4,none⟩ = some (.string ds[i].name):=hc 0 (by omega)
   have c1:wr.cell? ⟨b,off + i * 4 + 1,none⟩ = some (.int .i64 ds[i].v.kind):=hc 1 (by omega)
   have c2:wr.cell? ⟨b,off + i * 4 + 2,none⟩ = some (.string ds[i].v.text):=hc 2 (by omega)
   have c3:wr.cell? ⟨b,off + i * 4 + 3,none⟩ = some (.int .i64 ds[i].v.num):=hc 3 (by omega)
   have d0:wr.cell? ⟨b2,off2 + i * 4,none⟩ = some (.string ds[i].name):=hd 0 (by omega)
   have d1:wr.cell? ⟨b2,off2 + i * 4 + 1,none⟩ = some (.int .i64 ds[i].v.kind):=hd 1 (by omega)
   have d2:wr.cell? ⟨b2,off2 + i * 4 + 2,none⟩ = some (.string ds[i].v.text):=hd 2 (by omega)
   have d3:wr.cell? ⟨b2,off2 + i * 4 + 3,none⟩ = some (.int .i64 ds[i].v.num):=hd 3 (by omega)
   clear hc hd
   generalize ds[i] = y at *
   go_wp2_with fail
   go_quiet (fail)
   have HB1:=Lib.hid (fun n => (⟨hb.out.os,hb.out.tape,hb.out.output,hb.out.size,hb.out.block⟩:Below w.heap.size w (wr.drewN n)))
   go_wp2_with fail
   go_roundw
   case rel => exact ⟨i + 1,by omega,by go_num,Lib.hid (HB1.out _)⟩
   case measure => simp [intOf];omega
  ·have hie:i = ds.length:=by omega
   subst hie
   go_wp2_with fail
   go_ret
   exact ⟨rfl,hb.out⟩
set_option maxHeartbeats 2000000 in
set_option maxRecDepth 100000 in
theorem sameEvent_any (H:Frz) (p q:EvD) (w:World) (hH:H.In w) (hs:SameE p q) (hp:Rw H p.fa 4 fFd p.fields) (hq:Rw H q.fa 4 fFd q.fields) (hl:p.fields.length ≤ 1000000) :
  Calls Tryz.prog 57 #[.agg #[.string p.id,.string p.name,.int .i64 p.at_,.int .i64 p.kind,.string p.text,.slice p.fa p.fields.length p.fc],.agg #[.string q.id,.string q.name,.int .i64 q.at_,.int .i64 q.kind,.string q.text,.slice q.fa q.fields.length q.fc]] w fun e w' => e = .returned (.bool true) ∧ Below w.heap.size w w':=by
 obtain ⟨id,name,at_,kind,text,fa,fc,fields⟩:=p
 obtain ⟨id2,name2,at2,kind2,text2,fa2,fc2,fields2⟩:=q
 unfold SameE at hs
 dsimp only at hs hp hq hl ⊢
 obtain ⟨rfl,rfl,rfl,rfl,rfl,rfl⟩:=hs
 have HE:=Lib.hid (fun W hW => equal_Fd H fa fc fa2 fc2 fields W hW hp hq hl)
 have hb1:=new1 (w:=w) (.cells #[.string id,.string name,.int .i64 at_,.int .i64 kind,.string text,.slice fa fields.length fc] 42)
 have hb2:=new1 (w:=w.alloc (.cells #[.string id,.string name,.int .i64 at_,.int .i64 kind,.string text,.slice fa fields.length fc] 42)) (.cells #[.string id,.string name,.int .i64 at_,.int .i64 kind,.string text,.slice fa2 fields.length fc2] 42)
 have h2:((w.alloc (.cells #[.string id,.string name,.int .i64 at_,.int .i64 kind,.string text,.slice fa fields.length fc] 42)).alloc (.cells #[.string id,.string name,.int .i64 at_,.int .i64 kind,.string text,.slice fa2 fields.length fc2] 42)).heap[w.heap.size + 1]? = some (.cells #[.string id,.string name,.int .i64 at_,.int .i64 kind,.string text,.slice fa2 fields.length fc2] 42 (0,0)):=heap_at (by simp)
 have h1:=(hb2.block _ (lt_of_heap (heap_alloc_new w (.cells #[.string id,.string name,.int .i64 at_,.int .i64 kind,.string text,.slice fa fields.length fc] 42)))).trans (heap_alloc_new w (.cells #[.string id,.string name,.int .i64 at_,.int .i64 kind,.string text,.slice fa fields.length fc] 42))
 have HB:=Lib.hid (hb1.trans (hb2.mono hb1.size))
 have HIN:=Lib.hid (hH.below HB.out)
 have x0:=cell_h h1 0 (v:=.string id) rfl
 have x1:=cell_h h1 1 (v:=.string name) rfl
 have x2:=cell_h h1 2 (v:=.int .i64 at_) rfl
 have x3:=cell_h h1 3 (v:=.int .i64 kind) rfl
 have x4:=cell_h h1 4 (v:=.string text) rfl
 have x5:=cell_h h1 5 (v:=.slice fa fields.length fc) rfl
 have y0:=cell_h h2 0 (v:=.string id) rfl
 have y1:=cell_h h2 1 (v:=.string name) rfl
 have y2:=cell_h h2 2 (v:=.int .i64 at_) rfl
 have y3:=cell_h h2 3 (v:=.int .i64 kind) rfl
 have y4:=cell_h h2 4 (v:=.string text) rfl
 have y5:=cell_h h2 5 (v:=.slice fa2 fields.length fc2) rfl
 clear hb1 hb2 h1 h2 hp hq hH
 go_enter Tryz.func57,Tryz.ntmps57
 go_upto_region 1 with (fail)
 generalize (w.alloc (.cells #[.string id,.string name,.int .i64 at_,.int .i64 kind,.string text,.slice fa fields.length fc] 42)).alloc (.cells #[.string id,.string name,.int .i64 at_,.int .i64 kind,.string text,.slice fa2 fields.length fc2] 42) = W1 at *
 go_wp2_with fail
 refine (HE.out W1 HIN.out).mono ?_
 rintro e W2 ⟨rfl,hb2⟩
 have HB2:=Lib.hid (HB.out.trans (hb2.mono HB.out.size))
 clear hb2 x0 x1 x2 x3 x4 x5 y0 y1 y2 y3 y4 y5 HE
 go_wp2_with fail
 go_ret
 exact ⟨rfl,HB2.out⟩
set_option maxHeartbeats 4000000 in
set_option maxRecDepth 100000 in
theorem sameEventsF (H:Frz) (A B:Option Addr) (ca cb:Nat) (ps qs:List EvD) (w:World) (hH:H.In w) (hlen:qs.length = ps.length) (hs:∀ i (h1:i < ps.length) (h2:i < qs.length),SameE ps[i] qs[i]) (hA:Rw H A 6 fEv ps) (hB:Rw H B 6 fEv qs) (hA2:∀ d ∈ ps,Rw H d.fa 4 fFd d.fields ∧ d.fields.length ≤ 1000000) (hB2:∀ d ∈ qs,Rw H d.fa 4 fFd d.fields) (hl:ps.length ≤ 1000000) :
  Calls Tryz.prog 56 #[.slice A ps.length ca,.slice B qs.length cb,.func (.func 57) #[] #[]] w fun e w' => e = .returned (.bool true) ∧ Below w.heap.size w w':=by
 have HSP:=Lib.hid (fun i (h1:i < ps.length) (h2:i < qs.length) W (hW:H.In W) => sameEvent_any H ps[i] qs[i] W hW (hs i h1 h2) (hA2 _ (List.getElem_mem h1)).1 (hB2 _ (List.getElem_mem h2)) (hA2 _ (List.getElem_mem h1)).2)
 have HA:=Lib.hid hA
 have HB:=Lib.hid hB
 have HH:=Lib.hid hH
 have k0:((ps.length:Int) != (ps.length:Int)) = false:=by simp
 have HL:=Lib.hid hlen
 rw [hlen]
 clear hs hA hB hA2 hB2 hH hlen
 go_enter Tryz.func56,Tryz.ntmps56
 go_wp2_with fail
 clear k0
 go_loopw [17] (fun t wr => ∃ i:Nat,i ≤ ps.length ∧ t = .int .i64 i ∧ Hid (Below w.heap.size w wr)) (fun t _ => ps.length - (intOf t).toNat)
 case atStart => exact ⟨0,by omega,rfl,Below.refl _ _⟩
 case round =>
  obtain ⟨i,hi,rfl,hb⟩:=hrel
  by_cases hlt:i < ps.length
  ·have hlt2:i < qs.length:=by rw [HL.out];exact hlt
   obtain ⟨b,off,hAA,hbl,hc⟩:=HA.out.at_ (HH.out.below hb.out) hlt (by omega)
   obtain ⟨b2,off2,hBB,hbl2,hd⟩:=HB.out.at_ (HH.out.below hb.out) hlt2 (by omega)
   have HC:=Lib.hid (HSP.out i hlt hlt2)
   have c0:wr.cell? ⟨b,off + i * 6,none⟩ = some (.string ps[i].id):=hc 0 (by omega)
   have c1:wr.cell? ⟨b,off + i * 6 + 1,none⟩ = some (.string ps[i].name):=hc 1 (by omega)
   have c2:wr.cell? ⟨b,off + i * 6 + 2,none⟩ = some (.int .i64 ps[i].at_):=hc 2 (by omega)
   have c3:wr.cell? ⟨b,off + i * 6 + 3,none⟩ = some (.int .i64 ps[i].kind):=hc 3 (by omega)
   have c4:wr.cell? ⟨b,off + i * 6 + 4,none⟩ = some (.string ps[i].text):=hc 4 (by omega)
   have c5:wr.cell? ⟨b,off + i * 6 + 5,none⟩ = some (.slice ps[i].fa ps[i].fields.length ps[i].fc):=hc 5 (by omega)
   have d0:wr.cell? ⟨b2,off2 + i * 6,none⟩ = some (.string qs[i].id):=hd 0 (by omega)
   have d1:wr.cell? ⟨b2,off2 + i * 6 + 1,none⟩ = some (.string qs[i].name):=hd 1 (by omega)
   have d2:wr.cell? ⟨b2,off2 + i * 6 + 2,none⟩ = some (.int .i64 qs[i].at_):=hd 2 (by omega)
   have d3:wr.cell? ⟨b2,off2 + i * 6 + 3,none⟩ = some (.int .i64 qs[i].kind):=hd 3 (by omega)
   have d4:wr.cell? ⟨b2,off2 + i * 6 + 4,none⟩ = some (.string qs[i].text):=hd 4 (by omega)
   have d5:wr.cell? ⟨b2,off2 + i * 6 + 5,none⟩ = some (.slice qs[i].fa qs[i].fields.length qs[i].fc):=hd 5 (by omega)
   subst hAA hBB
   clear hc hd
   generalize ps[i] = p at *
   generalize qs[i] = q at *
   have hb1:=new1 (w:=wr) (.cells #[.string p.id,.string p.name,.int .i64 p.at_,.int .i64 p.kind,.string p.text,.slice p.fa p.fields.length p.fc] 42)
   have hb2:=new1 (w:=wr.alloc (.cells #[.string p.id,.string p.name,.int .i64 p.at_,.int .i64 p.kind,.string p.text,.slice p.fa p.fields.length p.fc] 42)) (.cells #[.string q.id,.string q.name,.int .i64 q.at_,.int .i64 q.kind,.string q.text,.slice q.fa q.fields.length q.fc] 42)
   have h2:((wr.alloc (.cells #[.string p.id,.string p.name,.int .i64 p.at_,.int .i64 p.kind,.string p.text,.slice p.fa p.fields.length p.fc] 42)).alloc (.cells #[.string q.id,.string q.name,.int .i64 q.at_,.int .i64 q.kind,.string q.text,.slice q.fa q.fields.length q.fc] 42)).heap[wr.heap.size + 1]? = some (.cells #[.string q.id,.string q.name,.int .i64 q.at_,.int .i64 q.kind,.string q.text,.slice q.fa q.fields.length q.fc] 42 (0,0)):=heap_at (by simp)
   have h1:=(hb2.block _ (lt_of_heap (heap_alloc_new wr (.cells #[.string p.id,.string p.name,.int .i64 p.at_,.int .i64 p.kind,.string p.text,.slice p.fa p.fields.length p.fc] 42)))).trans (heap_alloc_new wr (.cells #[.string p.id,.string p.name,.int .i64 p.at_,.int .i64 p.kind,.string p.text,.slice p.fa p.fields.length p.fc] 42))
   have e0:=lift_cell d0 _ hb1
   have e1:=lift_cell d1 _ hb1
   have e2:=lift_cell d2 _ hb1
   have e3:=lift_cell d3 _ hb1
   have e4:=lift_cell d4 _ hb1
   have e5:=lift_cell d5 _ hb1
   have HN:=Lib.hid (hb.out.trans ((hb1.trans (hb2.mono hb1.size)).mono hb.out.size))
   have x0:=cell_h h1 0 (v:=.string p.id) rfl
   have x1:=cell_h h1 1 (v:=.string p.name) rfl
   have x2:=cell_h h1 2 (v:=.int .i64 p.at_) rfl
   have x3:=cell_h h1 3 (v:=.int .i64 p.kind) rfl
   have x4:=cell_h h1 4 (v:=.string p.text) rfl
   have x5:=cell_h h1 5 (v:=.slice p.fa p.fields.length p.fc) rfl
   have y0:=cell_h h2 0 (v:=.string q.id) rfl
   have y1:=cell_h h2 1 (v:=.string q.name) rfl
   have y2:=cell_h h2 2 (v:=.int .i64 q.at_) rfl
   have y3:=cell_h h2 3 (v:=.int .i64 q.kind) rfl
   have y4:=cell_h h2 4 (v:=.string q.text) rfl
   have y5:=cell_h h2 5 (v:=.slice q.fa q.fields.length q.fc) rfl
   clear hb1 hb2 h1 h2 hb
   go_upto_region 7 with (fail)
   clear c0 c1 c2 c3 c4 c5 d0 d1 d2 d3 d4 d5 e0 e1 e2 e3 e4 e5
   generalize (wr.alloc (.cells #[.string p.id,.string p.name,.int .i64 p.at_,.int .i64 p.kind,.string p.text,.slice p.fa p.fields.length p.fc] 42)).alloc (.cells #[.string q.id,.string q.name,.int .i64 q.at_,.int .i64 q.kind,.string q.text,.slice q.fa q.fields.length q.fc] 42) = W2 at *
   go_wp2_with fail
   refine (HC.out W2 (HH.out.below HN.out)).mono ?_
   rintro e W3 ⟨rfl,hb3⟩
   have HB3:=Lib.hid (HN.out.trans (hb3.mono HN.out.size))
   clear hb3 x0 x1 x2 x3 x4 x5 y0 y1 y2 y3 y4 y5 HC
   go_wp2_with fail
   go_roundw
   case rel => exact ⟨i + 1,by omega,by go_num,HB3⟩
   case measure => simp [intOf];omega
  ·have hie:i = ps.length:=by omega
   subst hie
   go_wp2_with fail
   go_ret
   exact ⟨rfl,hb.out⟩
set_option maxHeartbeats 1000000 in
theorem sameEvents_any (H:Frz) (A B:Option Addr) (ca cb:Nat) (ps qs:List EvD) (w:World) (hH:H.In w) (hlen:qs.length = ps.length) (hs:∀ i (h1:i < ps.length) (h2:i < qs.length),SameE ps[i] qs[i]) (hA:Rw H A 6 fEv ps) (hB:Rw H B 6 fEv qs) (hA2:∀ d ∈ ps,Rw H d.fa 4 fFd d.fields ∧ d.fields.length ≤ 1000000) (hB2:∀ d ∈ qs,Rw H d.fa 4 fFd d.fields) (hl:ps.length ≤ 1000000) :
  Calls Tryz.prog 19 #[.slice A ps.length ca,.slice B qs.length cb] w fun e w' => e = .returned (.bool true) ∧ Below w.heap.size w w':=by
 have HE:=Lib.hid (sameEventsF H A B ca cb ps qs w hH hlen hs hA hB hA2 hB2 hl)
 clear hH hlen hs hA hB hA2 hB2
 go_enter Tryz.func19,Tryz.ntmps19
 go_wp2_with fail
 refine HE.out.mono ?_
 rintro e w1 ⟨rfl,hb⟩
 have HB:=Lib.hid hb
 clear hb HE
 go_wp2_with fail
 go_ret
 exact ⟨rfl,HB.out⟩
open Go.RowKit
theorem sort_I (B:Nat) (v:Value) (zs:List Int) (w:World) (hO:Orow w B 3 1 fI v zs) (hl:zs.length ≤ 1000000) :
  Calls Tryz.prog 15 #[v] w fun e w' => e = .returned (.tuple #[]) ∧ Orow w' B 3 1 fI v (zs.mergeSort fun x y => decide (x ≤ y)) ∧ w.grownBy w' v.ownBlock:=by
 rcases hO.2 with ⟨rfl,hn⟩ | ⟨g,cap,cur,rfl,hB,hh,hle,hm,hs,ht⟩
 ·have:zs = []:=List.eq_nil_of_length_eq_zero hn
  subst this
  refine (Any.slices_Sort_int_none Tryz.lays189 none 0 w).mono ?_
  rintro e w' ⟨rfl,n,rfl⟩
  exact ⟨rfl,by simpa using Orow.nil _ _ _ _ _,⟨rfl,rfl,rfl,Nat.le_refl _,fun k hk _ => rfl⟩⟩
 ·rw [cellsOf_fI,Nat.mul_one] at ht
  have hlt:g < w.heap.size:=lt_of_heap hh
  refine (Tryz.slices_Sort_int g 0 cap zs w (holds_of_blockI hh ht) hlt (by omega)).mono ?_
  rintro e w' ⟨rfl,n,os,rfl⟩
  have hl2:(zs.mergeSort fun x y => decide (x ≤ y)).length = zs.length:=List.length_mergeSort _
  refine ⟨rfl,?_,grownBy_sortedI _⟩
  have:=ownsRow_sortedI (n:=n) (os:=os) hl2 hB hh hle hm hs
  unfold Orow
  rw [cellsOf_fI,hl2]
  exact this
open Go.RowKit
theorem run_append_none {P:Program} {w:World} (base:Nat) (t ty e:TypeId) (i:TypeInfo) (size:Nat) (ht:P.underlying t = some (.slice e)) (hi:P.info? e = some i)
  (v:Value) (n:Nat) (xs:List Value) (hown:w.ownsRow base e size v n xs) (c:Nat) :
  (Builtin.append_ #[t,t] ty #[v,.slice none 0 c]).run P w = .ok v w:=by
 rcases hown.2 with ⟨rfl,rfl⟩ | ⟨g,cap,cur,rfl,_,_,hnc,_⟩
 ·simp [Builtin.append_,run_underlying ht,sizeOf,typeInfo,hi,Builtin.lenOf,Builtin.firstCells]
 ·simp [Builtin.append_,run_underlying ht,sizeOf,typeInfo,hi,Builtin.lenOf,Builtin.firstCells,hnc,storeCells]
theorem wpList_rows {D:Type} {P:Program} {wr:World} {ops:Array Oper} {rest:List Oper} {o:Oper} {a:Act} {Q:Exit → Act → World → Prop} (hgd:o.guard = none) (s x:Operand) (t:TypeId)
  (ho:o.op = .call { callee:=.builtin .append,args:=#[s,x],argTypes:=#[t,t] })
  (B:Nat) (e:TypeId) (i:TypeInfo) (z:Value) (k bytes:Nat) (ht:P.underlying t = some (.slice e)) (hi:P.info? e = some i) (hz:i.zero = some z)
  (hsize:i.size = k) (hby:i.bytes = bytes) (hzs:z.cells.size = k) (hsz:0 < k)
  (f:D → Nat → Value) (v:Value) (ds:List D) (hs:a.eval s = v) (hown:Orow wr B e k f v ds)
  (H:Frz) (hH:H.In wr) (A:Option Addr) (cap:Nat) (ds2:List D) (hR:Rw H A k f ds2) (hx:a.eval x = .slice A ds2.length cap) (h1:∀ d ∈ ds2,∀ m,(f d m).oneCell' = true)
  (hn:ds.length + ds2.length ≤ 4294967296) (hbytes:bytes ≤ 4096) (hB:B ≤ wr.heap.size)
  (h:∀ v' w',Orow w' B e k f v' (ds ++ ds2) → wr.grownBy w' v.ownBlock → (v'.ownBlock = v.ownBlock ∨ v'.ownBlock = some wr.heap.size) → wpList P ops Q rest (a.put o.dst v') w') :
  wpList P ops Q (o :: rest) a wr:=by
 cases A with
 | none =>
  have hz2:ds2 = []:=by
   cases ds2 with
   | nil => rfl
   | cons d ds2 => obtain ⟨b,off,e,_⟩:=hR 0 (by simp);cases e
  subst hz2
  refine wpList_plain hgd fun K hK => ?_
  have hrun:=run_append_none (P:=P) (w:=wr) B t o.type e i k ht hi v _ _ hown cap
  unfold Oper.wp
  simp only [List.length_nil] at hx
  simp [execOp,ho,resolve,invoke,builtin,hs,hx,hrun,Result.andThen]
  exact hK _ _ (h v wr (by rw [List.append_nil];exact hown) ⟨rfl,rfl,rfl,Nat.le_refl _,fun _ _ _ => rfl⟩ (Or.inl rfl))
 | some ad =>
  refine wpList_append_own_at _ hgd s x t ho B e i z k bytes ht hi hz hsize hby hzs hsz v ds.length _ hs hown ad ds2.length cap (cellsOf k f ds2) hx (cellsOf_len _ _ _) ?_ ?_ (by simp only [maxLen];omega) ?_ hB ?_
  ·intro j u hu
   have hj:j < ds2.length * k:=by have:=(List.getElem?_eq_some_iff.1 hu).1;rwa [cellsOf_len] at this
   have hjk:j / k < ds2.length:=(Nat.div_lt_iff_lt_mul hsz).2 hj
   obtain ⟨b,off,e,_,hc⟩:=hR.at_ hH hjk hsz
   injection e with e
   subst e
   have h2:=hc (j % k) (Nat.mod_lt _ hsz)
   have h3:=cellsOf_get k f ds2 (j / k) (j % k) hjk (Nat.mod_lt _ hsz)
   have e1:j / k * k + j % k = j:=Nat.div_add_mod' j k
   rw [e1,hu] at h3
   rw [Addr.add_lit,show off + j = off + j / k * k + j % k from by omega,h2]
   exact h3.symm
  ·intro u hu
   simp only [cellsOf,List.mem_flatMap,List.mem_map] at hu
   obtain ⟨d,hd,m,_,rfl⟩:=hu
   exact h1 d hd m
  ·have:(ds.length + ds2.length) * bytes ≤ 4294967296 * 4096:=Nat.mul_le_mul hn hbytes
   omega
  ·intro v' w' ho' hg' _ hat
   refine h v' w' ?_ hg' hat
   show World.ownsRow _ _ _ _ _ _ _
   rw [cellsOf_split,List.length_append]
   exact ho'
open Go.RowKit
def wholeH (w:World):Frz:=fun b => w.heap[b]?
theorem wholeH_in (w:World):(wholeH w).In w:=fun b o h => h
def newH (n:Nat) (w:World):Frz:=fun b => if b < n then none else w.heap[b]?
theorem newH_le (n:Nat) (w:World):(newH n w).Le (wholeH w):=fun b o h => by
 unfold newH at h
 split at h
 ·cases h
 ·exact h
theorem Orow.memN {D:Type} {w:World} {B T k:Nat} {f:D → Nat → Value} {v:Value} {ds:List D} (h:Orow w B T k f v ds) {n:Nat} (hn:n ≤ B):∃ A c,v = .slice A ds.length c ∧ ds.length ≤ c ∧ Rw (newH n w) A k f ds:=by
 rcases h.2 with ⟨rfl,h0⟩ | ⟨g,cap,cur,rfl,hB,hh,hle,hm,hs,ht⟩
 ·have:ds = []:=List.eq_nil_of_length_eq_zero h0
  subst this
  exact ⟨none,0,rfl,Nat.le_refl _,Rw.nil⟩
 ·refine ⟨some ⟨g,0,none⟩,cap,rfl,hle,fun i hi => ⟨g,0,rfl,fun j hj => ?_⟩⟩
  have hx:=cellsOf_get k f ds i j hi hj
  rw [← ht] at hx
  have hlt:i * k + j < ds.length * k:=by
   have:(i + 1) * k ≤ ds.length * k:=Nat.mul_le_mul_right _ hi
   rw [Nat.succ_mul] at this;omega
  rw [List.getElem?_take_of_lt hlt] at hx
  unfold Frz.cell? newH
  rw [if_neg (by show ¬ g < n;omega)]
  simp only [hh]
  simpa using hx
end Go.Proofs.YtfmnlpmgakgleaaGreatDoor
