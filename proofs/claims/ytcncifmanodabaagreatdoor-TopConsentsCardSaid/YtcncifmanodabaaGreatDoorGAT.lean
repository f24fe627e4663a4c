/- Texts of this claim, put together: Clr0, Clr, CompSt, SortK, CloneSt, SortSt, RowsA, ConcSt, Merge, IG, Ask. -/
import Derived.Test.YtcncifmanodabaaGreatDoorGAE
import Derived.Test.YtcncifmanodabaaGreatDoorGAB
import Derived.Laws.IdiomCopy
import Derived.Laws.AppendOwn
import Derived.Test.YtcncifmanodabaaGreatDoorGAF
import Derived.Test.YtcncifmanodabaaGreatDoorGAS
import Derived.Test.YtcncifmanodabaaGreatDoorGAI
import Derived.Shelf.SlSortCmp.NoneTotal
import Derived.Test.YtcncifmanodabaaGreatDoorGAC
import Derived.StillTailTactics
import Derived.Deep.Cut
import Derived.Test.YtcncifmanodabaaGreatDoorLaySort
import Derived.Test.YtcncifmanodabaaGreatDoorGAN
import Derived.Test.YtcncifmanodabaaGreatDoorGAD
import Derived.Laws.OwnMore
import Derived.Test.YtcncifmanodabaaGreatDoorGAP
import Derived.Test.YtcncifmanodabaaGreatDoorGAR
namespace Go.Proofs.YtcncifmanodabaaGreatDoor
set_option linter.unusedVariables false
open Go.RowKit
theorem setCells_eq (w:World) (b:Nat):∀ (vs:List Value) (o:Nat) (w:World),w.setCells b o vs = setK w b o vs
 | [],_,_ => rfl
 | v :: r,o,w => by rw [World.setCells,setK];exact setCells_eq w b r (o + 1) _
theorem run_clear_rows {P:Program} (w:World) (t e ty:TypeId) (z:Value) (ht:P.underlying t = some (.slice e)) (hv:∀ w,(zeroValue e).run P w = .ok z w) (k:Nat) (hk:z.cells.size = k) (h0:0 < k) (h1:∀ v ∈ z.cells.toList,v.oneCell' = true) (b o n c:Nat) (hn:0 < n)
  (hc:∀ j,j < n * k → (w.cell? ⟨b,o + j,none⟩).isSome = true) (hf:∀ j,j < n * k → w.frozen? ⟨b,o + j,none⟩ = false) :
  (Builtin.clear_ #[t] ty #[.slice (some ⟨b,o,none⟩) n c]).run P w = .ok (.tuple #[]) (setK w b o (Builtin.zeroCells z.cells n).toList):=by
 have hl:(Builtin.zeroCells z.cells n).toList.length = n * k:=by rw [Array.length_toList,size_zeroCells,hk]
 have hst:=run_storeCells_cells (P:=P) b o (Builtin.zeroCells z.cells n).toList 0 w (by rw [hl];simpa using hc) (by rw [hl];simpa using hf) (by
  intro v hv'
  simp only [Builtin.zeroCells,Array.toList_map,List.mem_map] at hv'
  obtain ⟨i,_,rfl⟩:=hv'
  apply h1
  rw [getElem!_pos z.cells (i % z.cells.size) (Nat.mod_lt _ (by omega))]
  simp)
 simp only [Nat.add_zero] at hst
 obtain ⟨m,rfl⟩:∃ m,n = m + 1:=⟨n - 1,by omega⟩
 simp [Builtin.clear_,run_underlying ht,hv,hst,setCells_eq w b]
theorem KBlk.cut {D:Type} {w:World} {g T k:Nat} {f:D → Nat → Value} {ds:List D} {rest:List Value} (h:KBlk w g T k f ds rest) {i:Nat} (hi:i ≤ ds.length) (l:List Value) (hl:l.length = (ds.length - i) * k) :
  KBlk (setK w g (i * k) l) g T k f (ds.take i) (l ++ rest):=by
 unfold KBlk at h ⊢
 have hm:i * k + (ds.length - i) * k = ds.length * k:=by rw [← Nat.add_mul];congr 1;omega
 have hL:=cellsOf_len k f ds
 rw [setK_heap w g (i * k) l h (by simp only [List.size_toArray,List.length_append];omega)]
 have e:cellsOf k f ds = cellsOf k f (ds.take i) ++ cellsOf k f (ds.drop i):=by rw [← cellsOf_split,List.take_append_drop]
 have l1:(cellsOf k f (ds.take i)).length = i * k:=by rw [cellsOf_len,List.length_take];congr 1;omega
 congr 3
 rw [e,List.append_assoc,List.append_assoc,List.take_left' l1]
 congr 1
 congr 1
 rw [← List.append_assoc,List.drop_left' (by rw [List.length_append,l1,cellsOf_len,List.length_drop,hl])]
open Go.RowKit
theorem fSt_one (d:StD) (m:Nat):(fSt d m).oneCell' = true:=by
 unfold fSt
 split <;> rfl
open Go.RowKit
open Go.RowKit Go.Sort
section
variable {D:Type} [Inhabited D] {w:World} {g T k:Nat} {f:D → Nat → Value} {ds ds':List D} {rest:List Value}
def encK (k:Nat) (f:D → Nat → Value) (d:D):List Value:=(List.range k).map (f d)
omit [Inhabited D] in
theorem encK_len (d:D):(encK k f d).length = k:=by simp [encK]
theorem flatK_list (ds:List D):(flatK (encK k f) k ds.toArray).toList = cellsOf k f ds:=by
 apply List.ext_getElem?
 intro t
 by_cases h:t < ds.length * k
 ·have hk:0 < k:=by
   rcases Nat.eq_zero_or_pos k with h0 | h0
   ·subst h0;simp at h
   ·exact h0
  have h1:t / k < ds.length:=(Nat.div_lt_iff_lt_mul hk).2 h
  have h2:t % k < k:=Nat.mod_lt _ hk
  have h3:=cellsOf_get k f ds (t / k) (t % k) h1 h2
  rw [Nat.div_add_mod' t k] at h3
  rw [h3,Array.getElem?_toList]
  have hs:t < (flatK (encK k f) k ds.toArray).size:=by simpa using h
  have h4:=get_flatK (encK k f) k ds.toArray t (by simpa using h)
  rw [getElem!_pos _ t hs] at h4
  rw [Array.getElem?_eq_getElem hs,h4]
  rw [getElem!_pos ds.toArray (t / k) (by simpa using h1),getElem!_pos _ (t % k) (by rw [encK_len];exact h2)]
  simp [encK]
 ·rw [List.getElem?_eq_none (by simp;omega),List.getElem?_eq_none (by rw [cellsOf_len];omega)]
theorem holdsK_of_blk (h:KBlk w g T k f ds rest):HoldsK (encK k f) k w g 0 ds.toArray:=by
 intro j hj
 have hj':j < (cellsOf k f ds).length:=by rw [cellsOf_len];simpa using hj
 refine ⟨?_,by rw [Nat.zero_add];exact h.frozen j⟩
 unfold KBlk at h
 have e:=flatK_list (k:=k) (f:=f) ds
 have h1:(flatK (encK k f) k ds.toArray)[j]! = (cellsOf k f ds)[j]:=by
  rw [getElem!_pos _ j hj,← Array.getElem_toList]
  exact List.getElem_of_eq e _
 rw [h1]
 simp only [World.cell?,h,Nat.zero_add]
 simp only [Option.isSome_none,Bool.false_eq_true,if_false,List.getElem?_toArray]
 rw [List.getElem?_append_left hj',List.getElem?_eq_getElem hj']
 rfl
theorem kblk_sortWorldK (h:KBlk w g T k f ds rest) (hl:ds'.length = ds.length) (n:Nat) (os:Array Obj):KBlk (sortWorldK (encK k f) k w g 0 n ds'.toArray os) g T k f ds' rest:=by
 have hlt:=h.lt
 unfold KBlk at h ⊢
 unfold sortWorldK
 rw [heap_grow_old _ _ (by unfold putRowK;simpa [putRow,mapBlock] using hlt)]
 have e:(putRowK (encK k f) k (Sort.ahead w n) g 0 ds'.toArray).heap[g]? = some (.cells (putCells id 0 (flatK (encK k f) k ds'.toArray) (cellsOf k f ds ++ rest).toArray) T (0,0)):=by
  unfold putRowK
  simp [putRow,mapBlock,Array.getElem?_modify,h,onCells]
 rw [e]
 congr 2
 apply Array.ext_getElem?
 intro j
 have l1:(cellsOf k f ds).length = ds.length * k:=cellsOf_len _ _ _
 have l2:(cellsOf k f ds').length = ds'.length * k:=cellsOf_len _ _ _
 rw [hl] at l2
 have e:=flatK_list (k:=k) (f:=f) ds'
 have hsz:(flatK (encK k f) k ds'.toArray).size = ds.length * k:=by simp [hl]
 unfold putCells
 rw [Array.getElem?_mapIdx,List.getElem?_toArray,List.getElem?_toArray]
 by_cases c:j < ds.length * k
 ·rw [List.getElem?_append_left (by rw [l1];exact c),List.getElem?_append_left (by rw [l2];exact c),List.getElem?_eq_getElem (by rw [l1];exact c),List.getElem?_eq_getElem (by rw [l2];exact c)]
  simp only [Option.map_some,Nat.zero_le,Nat.zero_add,Nat.sub_zero,true_and,hsz,if_pos c,id]
  congr 1
  rw [getElem!_pos _ j (by rw [hsz];exact c),← Array.getElem_toList]
  exact List.getElem_of_eq e _
 ·rw [List.getElem?_append_right (by rw [l1];omega),List.getElem?_append_right (by rw [l2];omega),l1,l2]
  simp only [Nat.zero_le,Nat.zero_add,true_and,hsz,if_neg c,Option.map_id']
theorem grown_sortWorldK (enc:D → List Value) (k n:Nat) (d:Array D) (os:Array Obj):w.grownBy (sortWorldK enc k w g 0 n d os) (some g):=by
 unfold sortWorldK putRowK
 refine ⟨rfl,rfl,rfl,by simp [putRow,mapBlock],fun i hi hne => ?_⟩
 rw [heap_grow_old _ _ (by simpa [putRow,mapBlock] using hi)]
 have:g ≠ i:=fun e => hne (by rw [e])
 simp [putRow,mapBlock,Array.getElem?_modify,this]
theorem permIn_list {d d':Array D} (h:PermIn 0 d.size d d'):d'.toList.Perm d.toList:=by
 have h3:=h.2.2
 have e1:d'.extract 0 d.size = d':=by rw [← h.1];simp
 have e2:d.extract 0 d.size = d:=by simp
 rw [e1,e2] at h3
 exact h3
theorem sortedIn_list {lt:D → D → Bool} {d:Array D} (h:SortedIn lt 0 d.size d):d.toList.Pairwise fun a b => lt b a = false:=by
 rw [List.pairwise_iff_getElem]
 intro i j hi hj hij
 have:=h i j (Nat.zero_le _) hij (by simpa using hj)
 rw [getElem!_pos d j (by simpa using hj),getElem!_pos d i (by simpa using hi)] at this
 simpa using this
end
open Go.RowKit
theorem infoSt:(Tryz.prog.info? 53).map (fun i => (i.zero,i.size,i.bytes)) = some (some (.agg #[.int .i64 0,.int .i64 0,.int .i64 0,.string ⟨#[]⟩,.string ⟨#[]⟩,.string ⟨#[]⟩,.int .i64 0,.int .i64 0]),8,88):=by kernel_rfl
section
variable {D:Type}
end
open Go.RowKit
instance:Inhabited StD:=⟨zeroSt⟩
theorem growSt (n:Nat) (hn:n ≤ 1000000) (w:World) :
  Calls Tryz.prog 33 #[.slice none 0 0,.int .i64 n] w fun e w' => ∃ v,e = .returned v ∧ Orow w' w.heap.size 53 8 fSt v [] ∧ Below w.heap.size w w':=by
 obtain ⟨i0,hi0,hz0,hz1,hz2⟩:=info_parts infoSt
 by_cases h0:n = 0
 ·subst h0
  refine (Any8.slices_Grow_room Tryz.growSt none 0 0 0 w (by omega) (by omega) (by omega) (by omega)).mono ?_
  rintro e w' ⟨rfl,rfl⟩
  exact ⟨_,rfl,Orow.nil _ _ _ _ _,Below.refl _ _⟩
 ·refine (Any8.slices_Grow_grow Tryz.growSt i0 _ hi0 hz0 (by omega) none 0 0 n [] w (by omega) (by omega) (by rw [hz2];omega) (by omega) (by simp) (fun _ => rfl) (fun a h => by cases h)).mono ?_
  rintro e w' ⟨rfl,rfl⟩
  refine ⟨_,rfl,⟨rfl,Or.inr ⟨w.heap.size,_,_,rfl,Nat.le_refl _,heap_at (by rfl),Nat.zero_le _,grownCap_le_maxLen _ _ _ _ (by simp only [maxLen];omega),?_,rfl⟩⟩,?_⟩
  ·have:=grownCap_ge w (0 + n) 0 53
   show _ = grownCap w (0 + n) 0 53 * 8
   simp only [Array.size_append,size_zeroCells]
   show 0 + (0 + n - 0) * 8 + (grownCap w (0 + n) 0 53 - (0 + n)) * 8 = _
   omega
  ·exact ((Below.refl _ w).drew).alloc (Nat.le_refl _) _
open Go.RowKit
theorem run_append_none {P:Program} {w:World} (base:Nat) (t ty e:TypeId) (i:TypeInfo) (size:Nat) (ht:P.underlying t = some (.slice e)) (hi:P.info? e = some i)
  (v:Value) (n:Nat) (xs:List Value) (hown:w.ownsRow base e size v n xs) (c:Nat) :
  (Builtin.append_ #[t,t] ty #[v,.slice none 0 c]).run P w = .ok v w:=by
 rcases hown.2 with ⟨rfl,rfl⟩ | ⟨g,cap,cur,rfl,_,_,hnc,_⟩
 ·simp [Builtin.append_,run_underlying ht,sizeOf,typeInfo,hi,Builtin.lenOf,Builtin.firstCells]
 ·simp [Builtin.append_,run_underlying ht,sizeOf,typeInfo,hi,Builtin.lenOf,Builtin.firstCells,hnc,storeCells]
theorem wpList_rows {D:Type} {P:Program} {wr:World} {ops:Array Oper} {rest:List Oper} {o:Oper} {a:Act} {Q:Exit → Act → World → Prop} (hgd:o.guard = none) (s x:Operand) (t:TypeId)
  (ho:o.op = .call { callee:=.builtin .append,args:=#[s,x],argTypes:=#[t,t] })
  (B:Nat) (e:TypeId) (i:TypeInfo) (z:Value) (k bytes:Nat) (ht:P.underlying t = some (.slice e)) (hi:P.info? e = some i) (hz:i.zero = some z)
  (hsize:i.size = k) (hby:i.bytes = bytes) (hzs:z.cells.size = k) (hsz:0 < k)
  (f:D → Nat → Value) (v:Value) (ds:List D) (hs:a.eval s = v) (hown:Orow wr B e k f v ds)
  (H:Frz) (hH:H.In wr) (A:Option Addr) (cap:Nat) (ds2:List D) (hR:Rw H A k f ds2) (hx:a.eval x = .slice A ds2.length cap) (h1:∀ d ∈ ds2,∀ m,(f d m).oneCell' = true)
  (hn:ds.length + ds2.length ≤ 4294967296) (hbytes:bytes ≤ 4096) (hB:B ≤ wr.heap.size)
  (h:∀ v' w',Orow w' B e k f v' (ds ++ ds2) → wr.grownBy w' v.ownBlock → (v'.ownBlock = v.ownBlock ∨ v'.ownBlock = some wr.heap.size) → wpList P ops Q rest (a.put o.dst v') w') :
  wpList P ops Q (o :: rest) a wr:=by
 cases A with
 | none =>
  have hz2:ds2 = []:=by
   cases ds2 with
   | nil => rfl
   | cons d ds2 => obtain ⟨b,off,e,_⟩:=hR 0 (by simp);cases e
  subst hz2
  refine wpList_plain hgd fun K hK => ?_
  have hrun:=run_append_none (P:=P) (w:=wr) B t o.type e i k ht hi v _ _ hown cap
  unfold Oper.wp
  simp only [List.length_nil] at hx
  simp [execOp,ho,resolve,invoke,builtin,hs,hx,hrun,Result.andThen]
  exact hK _ _ (h v wr (by rw [List.append_nil];exact hown) ⟨rfl,rfl,rfl,Nat.le_refl _,fun _ _ _ => rfl⟩ (Or.inl rfl))
 | some ad =>
  refine wpList_append_own_at _ hgd s x t ho B e i z k bytes ht hi hz hsize hby hzs hsz v ds.length _ hs hown ad ds2.length cap (cellsOf k f ds2) hx (cellsOf_len _ _ _) ?_ ?_ (by simp only [maxLen];omega) ?_ hB ?_
  ·intro j u hu
   have hj:j < ds2.length * k:=by have:=(List.getElem?_eq_some_iff.1 hu).1;rwa [cellsOf_len] at this
   have hjk:j / k < ds2.length:=(Nat.div_lt_iff_lt_mul hsz).2 hj
   obtain ⟨b,off,e,_,hc⟩:=hR.at_ hH hjk hsz
   injection e with e
   subst e
   have h2:=hc (j % k) (Nat.mod_lt _ hsz)
   have h3:=cellsOf_get k f ds2 (j / k) (j % k) hjk (Nat.mod_lt _ hsz)
   have e1:j / k * k + j % k = j:=Nat.div_add_mod' j k
   rw [e1,hu] at h3
   rw [Addr.add_lit,show off + j = off + j / k * k + j % k from by omega,h2]
   exact h3.symm
  ·intro u hu
   simp only [cellsOf,List.mem_flatMap,List.mem_map] at hu
   obtain ⟨d,hd,m,_,rfl⟩:=hu
   exact h1 d hd m
  ·have:(ds.length + ds2.length) * bytes ≤ 4294967296 * 4096:=Nat.mul_le_mul hn hbytes
   omega
  ·intro v' w' ho' hg' _ hat
   refine h v' w' ?_ hg' hat
   show World.ownsRow _ _ _ _ _ _ _
   rw [cellsOf_split,List.length_append]
   exact ho'
open Go.RowKit
structure SlD where
 A:Option Addr
 cap:Nat
 l:List StD
def fSl (d:SlD) (_:Nat):Value:=.slice d.A d.l.length d.cap
def catF (ls:List SlD):List StD:=ls.flatMap fun d => d.l
theorem catF_succ {ls:List SlD} {i:Nat} (h:i < ls.length):catF (ls.take (i + 1)) = catF (ls.take i) ++ ls[i].l:=by
 unfold catF
 rw [List.take_succ_eq_append_getElem h,List.flatMap_append]
 simp
theorem catF_le (ls:List SlD) (i:Nat):(catF (ls.take i)).length ≤ (catF ls).length:=by
 unfold catF
 conv => rhs;rw [← List.take_append_drop i ls,List.flatMap_append,List.length_append]
 omega
set_option maxHeartbeats 4000000 in
set_option maxRecDepth 100000 in
theorem concat_St (H:Frz) (A3:Option Addr) (cap3:Nat) (ls:List SlD) (w:World) (hH:H.In w) (hR3:Rw H A3 1 fSl ls) (hR:∀ d ∈ ls,Rw H d.A 8 fSt d.l) (hl:ls.length ≤ 1000) (hl2:(catF ls).length ≤ 1000000) :
  Calls Tryz.prog 12 #[.slice A3 ls.length cap3] w fun e w' => (∃ v,e = .returned v ∧ Orow w' w.heap.size 53 8 fSt v (catF ls)) ∧ Below w.heap.size w w':=by
 obtain ⟨i0,hi0,hz0,hz1,hz2⟩:=info_parts infoSt
 have HH:=Lib.hid hH
 have HR3:=Lib.hid hR3
 have HR:=Lib.hid hR
 have HL2:=Lib.hid hl2
 clear hH hR3 hR hl2
 go_enter Tryz.func12,Tryz.ntmps12
 go_wp2_with fail
 go_loopw [3,5,11] (fun t3 _ t11 wr => ∃ i:Nat,i ≤ ls.length ∧ t3 = .int .i64 (catF (ls.take i)).length ∧ t11 = .int .i64 i ∧ wr = w) (fun _ _ t _ => ls.length - (intOf t).toNat)
 case atStart => exact ⟨0,by omega,rfl,rfl,rfl⟩
 case round =>
  obtain ⟨i,hi,rfl,rfl,rfl⟩:=hrel
  by_cases hlt:i < ls.length
  ·obtain ⟨b,off,rfl,hbl,hc⟩:=HR3.out.at_ HH.out hlt (by omega)
   have c0:wr.cell? ⟨b,off + i,none⟩ = some (.slice ls[i].A ls[i].l.length ls[i].cap):=by
    have:=hc 0 (by omega)
    rw [show off + i * 1 + 0 = off + i from by omega] at this
    exact this
   have hs1:=catF_succ hlt
   have hle:(catF (ls.take (i + 1))).length ≤ 1000000:=Nat.le_trans (catF_le ls (i + 1)) HL2.out
   rw [hs1,List.length_append] at hle
   have HN:Hid ((catF (ls.take (i + 1))).length = (catF (ls.take i)).length + ls[i].l.length):=by show _ = _;rw [hs1,List.length_append]
   clear hc hs1
   generalize ls[i] = d at *
   generalize (catF (ls.take i)).length = n at *
   have hneg:decide (((n:Int) + (d.l.length:Int)) < 0) = false:=by simp;omega
   go_wp2_with fail
   go_roundw
   case rel => exact ⟨i + 1,by omega,by rw [HN.out];go_num,by go_num,by first | rfl | trivial⟩
   case measure => simp [intOf];omega
  ·have hie:i = ls.length:=by omega
   subst hie
   rw [List.take_length]
   obtain ⟨w0,rfl⟩:∃ w0:World,w0 = wr:=⟨_,rfl⟩
   go_wp2_with fail
   refine (growSt (catF ls).length HL2.out w0).mono ?_
   rintro e W1 ⟨v1,rfl,hO1,hb1⟩
   have HO1:=Lib.hid hO1
   have HB1:=Lib.hid hb1
   clear hO1 hb1
   go_wp2_with fail
   go_loopw [6,8,27] (fun t6 _ t27 wq => ∃ (i:Nat),i ≤ ls.length ∧ t27 = .int .i64 i ∧ Hid (Orow wq w0.heap.size 53 8 fSt t6 (catF (ls.take i))) ∧ Hid (Below w0.heap.size w0 wq)) (fun _ _ t _ => ls.length - (intOf t).toNat)
   case atStart => exact ⟨0,by omega,rfl,HO1,HB1⟩
   case round =>
    obtain ⟨i,hi,rfl,hO,hB⟩:=hrel
    clear HO1 HB1
    by_cases hlt:i < ls.length
    ·have hin:=HH.out.below hB.out
     obtain ⟨b,off,rfl,hbl,hc⟩:=HR3.out.at_ hin hlt (by omega)
     have c0:=hc 0 (by omega)
     rw [show off + i * 1 + 0 = off + i from by omega] at c0
     unfold fSl at c0
     have HS1:=Lib.hid (catF_succ hlt)
     have hle:(catF (ls.take (i + 1))).length ≤ 1000000:=Nat.le_trans (catF_le ls (i + 1)) HL2.out
     rw [HS1.out,List.length_append] at hle
     have hRi:=Lib.hid (HR.out _ (List.getElem_mem hlt))
     have HIN:=Lib.hid hin
     clear hc hin
     generalize ls[i] = d at *
     go_wp2_with (at_builtin;refine wpList_rows rfl _ _ 32 rfl _ 53 i0 (.agg #[.int .i64 0,.int .i64 0,.int .i64 0,.string ⟨#[]⟩,.string ⟨#[]⟩,.string ⟨#[]⟩,.int .i64 0,.int .i64 0]) 8 88 Tryz.underlying32 hi0 hz0 hz1 hz2 rfl (by decide) fSt _ _ rfl hO.out H HIN.out d.A d.cap d.l hRi.out rfl (fun d _ m => fSt_one d m) (by omega) (by omega) hB.out.size ?_;intro v2 w2 o2 g2 at2)
     have HO2:Hid (Orow w2 w0.heap.size 53 8 fSt v2 (catF (ls.take (i + 1)))):=by
      show Orow _ _ _ _ _ _ _
      rw [HS1.out]
      exact o2
     have HB2:Hid (Below w0.heap.size w0 w2):=hB.out.grown g2 hB.out.size (fun q hq => (hO.out.lt hq).1)
     clear o2 g2 at2 hO hB
     go_wp2_with fail
     go_roundw
     case rel => exact ⟨i + 1,by omega,by go_num,HO2,HB2⟩
     case measure => simp [intOf];omega
    ·have hie:i = ls.length:=by omega
     subst hie
     rw [List.take_length] at hO
     go_wp2_with fail
     go_ret
     exact ⟨⟨_,rfl,hO.out⟩,hB.out⟩
open Go.RowKit
open Go.RowKit
structure IG {D:Type} (T k:Nat) (f:D → Nat → Value) (H:Frz) (B:Nat) (v:Value) (ds:List D) (w W:World):Prop where
 inn:H.In W
 row:Orow W B T k f v ds
 own:∀ g,v.ownBlock = some g → H g = none
 bel:Below w.heap.size w W
 hB:w.heap.size ≤ B
 le:B ≤ W.heap.size
section
variable {D:Type} {T k:Nat} {f:D → Nat → Value} {H:Frz} {B:Nat} {v v':Value} {ds ds':List D} {w W W':World}
theorem IG.below (h:IG T k f H B v ds w W) (hb:Below W.heap.size W W'):IG T k f H B v ds w W' :=
 ⟨h.inn.below hb,h.row.below hb,h.own,h.bel.trans (hb.mono h.bel.size),h.hB,Nat.le_trans h.le hb.size⟩
theorem IG.app (h:IG T k f H B v ds w W) (o:Orow W' B T k f v' ds') (g1:W.grownBy W' v.ownBlock) (at1:v'.ownBlock = v.ownBlock ∨ ∃ g,v'.ownBlock = some g ∧ W.heap.size < g):IG T k f H B v' ds' w W' :=
 ⟨h.inn.grown' g1 h.own,o,(fun q hq => by
  rcases at1 with e | ⟨g,e,hg⟩
  ·exact h.own q (by rw [← e];exact hq)
  ·rw [e] at hq;injection hq with hq;exact h.inn.none_ (by omega)),h.bel.grown g1 h.bel.size (fun g hg => Nat.le_trans h.hB (h.row.lt hg).1),h.hB,Nat.le_trans h.le g1.size⟩
theorem IG.put (h:IG T k f H B v ds w W) (o:Obj):∃ H',H.Le H' ∧ H' W.heap.size = some o ∧ IG T k f H' B v ds w (W.alloc o):=by
 have h2:=h.below (new1 o)
 refine ⟨H.add W.heap.size o,Frz.le_add (h.inn.none_ (Nat.le_refl _)),Frz.add_at _ _ _,h2.inn.add (heap_at rfl),h2.row,fun g hg => ?_,h2.bel,h2.hB,h2.le⟩
 rw [Frz.add_other (by have:=(h.row.lt hg).2;omega)]
 exact h.own g hg
theorem IG.less {H':Frz} (h:IG T k f H' B v ds w W) (hl:H.Le H'):IG T k f H B v ds w W :=
 ⟨h.inn.le hl,h.row,(fun g hg => by
  cases e:H g with
  | none => rfl
  | some o => (have:=hl g o e;rw [h.own g hg] at this;cases this)),h.bel,h.hB,h.le⟩
theorem IG.upd {go capg n:Nat} (h:IG T k f H B (.slice (some ⟨go,0,none⟩) n capg) ds w W) (hn:n = ds.length) {p:Nat} (hp:p < ds.length) {j:Nat} (hj:j < k) (d':D) {x:Value} (hx:f d' j = x) (ho:∀ m,m < k → m ≠ j → f d' m = f ds[p] m) :
  W.cell? ⟨go,p * k + j,none⟩ = some (f ds[p] j) ∧ W.frozen? ⟨go,p * k + j,none⟩ = false ∧ IG T k f H B (.slice (some ⟨go,0,none⟩) n capg) (ds.set p d') w (W.setCell ⟨go,p * k + j,none⟩ x):=by
 subst hn
 have hne:ds ≠ []:=by intro e;rw [e] at hp;simp at hp
 obtain ⟨g',cap',rest,hv,hle',hB',hlt,hm',hblk,hr⟩:=h.row.form hne
 injection hv with e1 _ e2
 injection e1 with e1
 injection e1 with e1
 subst e1 e2
 have hnone:H go = none:=h.own go rfl
 refine ⟨hblk.cell p j hp hj,hblk.frozen _,h.inn.setCell (p:=⟨go,p * k + j,none⟩) hnone _,?_,h.own,h.bel.setCell (show w.heap.size ≤ go from Nat.le_trans h.hB hB') _,h.hB,by have:=h.le;simpa [World.setCell] using this⟩
 have:=Orow.of_blk (B:=B) (hblk.upd p j hp hj hx ho) hB' hm' (by simpa using hle') (by simpa using hr)
 simpa using this
end
open Go.RowKit
def lastNo (ss:List StD):Int:=if h:ss.length = 0 then 0 else (ss[ss.length - 1]'(by omega)).no
def outSt (no:Int) (kind:Int) (text purp region:ByteArray) (ch at_:Int) (i:Nat) (w:Int):StD:=⟨no + 1 + i,at_,kind,text,if ofCh w = true then ⟨#[]⟩ else purp,region,ch,w⟩
def outsF (no:Int) (kind:Int) (text purp region:ByteArray) (ch at_:Int) (ws:List Int):List StD:=ws.mapIdx (outSt no kind text purp region ch at_)
theorem outsF_len {no:Int} {kind:Int} {text purp region:ByteArray} {ch at_:Int} {ws:List Int}:(outsF no kind text purp region ch at_ ws).length = ws.length:=by simp [outsF]
theorem outsF_take {no:Int} {kind:Int} {text purp region:ByteArray} {ch at_:Int} {ws:List Int} {i:Nat} (h:i < ws.length):(outsF no kind text purp region ch at_ ws).take (i + 1) = (outsF no kind text purp region ch at_ ws).take i ++ [outSt no kind text purp region ch at_ i ws[i]]:=by
 rw [List.take_succ_eq_append_getElem (by rw [outsF_len];exact h)]
 simp [outsF]
def askFin (ss outs:List StD) (no:Int):Int × List StD:=if 3000 < ss.length + outs.length ∨ 1000000 < no + outs.length then (12,[]) else (0,outs)
def askNo (ps:List PurD) (ss:List StD) (kind:Int) (text purp region:ByteArray) (ch at_:Int):Int × List StD :=
 if allErr ps ss [⟨kind,text⟩] 1 purp region ch at_ ≠ 0 then (allErr ps ss [⟨kind,text⟩] 1 purp region ch at_,[]) else
 if (askF ps ss kind text purp region ch at_).may = false then (0,[]) else askFin ss (outsF (lastNo ss) kind text purp region ch at_ [3]) (lastNo ss)
def WishPost (w:World) (r:Int × List StD) (e:Ending) (w':World):Prop:=∃ v,e = .returned (.tuple #[v,.int .i64 r.1]) ∧ Orow w' w.heap.size 53 8 fSt v r.2 ∧ Below w.heap.size w w'
theorem WishPost.nil {w w':World} {r:Int × List StD} {er:Int} (h:r = (er,[])) (hb:Below w.heap.size w w'):WishPost w r (.returned (.tuple #[.slice none 0 0,.int .i64 er])) w':=by
 subst h
 exact ⟨_,rfl,Orow.nil _ _ _ _ _,hb⟩
theorem set_at {w:World} {g m:Nat} {xs:Array Value} {T:TypeId} {fr:Nat × Nat} (h:w.heap[g]? = some (.cells xs T fr)) (v:Value):(w.setCell ⟨g,m,none⟩ v).heap[g]? = some (.cells (xs.setIfInBounds m v) T fr):=by
 simp [World.setCell,Array.getElem?_modify,h]
theorem IG.setNew {D:Type} {T k:Nat} {f:D → Nat → Value} {H:Frz} {B:Nat} {v:Value} {ds:List D} {w W:World} (h:IG T k f H B v ds w W) {nb m:Nat} {x:Value} (hb:w.heap.size ≤ nb) (hv:v.ownBlock ≠ some nb) (hn:H nb = none):IG T k f H B v ds w (W.setCell ⟨nb,m,none⟩ x):=by
 have hg:W.grownBy (W.setCell ⟨nb,m,none⟩ x) (some nb):=⟨rfl,rfl,rfl,by simp [World.setCell],fun b _ hne => Below.heap_setCell W _ x b (fun e => hne (by rw [e]))⟩
 exact ⟨h.inn.setCell hn x,h.row.kept hg (Or.inr hv),h.own,h.bel.setCell hb x,h.hB,Nat.le_trans h.le hg.size⟩
theorem lastNo_bd {ps:List PurD} {ss:List StD} (h:sayErr idErr ps ss = 0):0 ≤ lastNo ss ∧ lastNo ss ≤ 1000000:=by
 unfold lastNo
 split
 ·omega
 ·have h1:=((say_iff ps ss).1 h).2.2.2 _ (List.getElem_mem (l:=ss) (n:=ss.length - 1) (by omega))
  unfold stOne at h1
  split at h1
  ·cases h1
  ·omega
theorem slot_of {a:Act} {s:Nat} {v:Value} (h:a.tmps.getD s undef = v):a.tmps[s]?.getD undef = v:=by rw [← Array.getD_eq_getD_getElem?];exact h
set_option maxHeartbeats 16000000 in
set_option maxRecDepth 100000 in
theorem askNo_any (H:Frz) (hM:MLen H) (A:Option Addr) (cap:Nat) (ps:List PurD) (A2:Option Addr) (cap2:Nat) (ss:List StD) (kind:Int) (text purp region:ByteArray) (ch at_:Int) (w:World) (hH:H.In w)
  (hP:PolIn H A ps) (hl:ps.length ≤ 1000000) (hR:Rw H A2 8 fSt ss) (hl2:ss.length < 18) (hsz:SzSt ss) (htz:text.size ≤ 1000000) (hrz:region.size ≤ 1000000) :
  Calls Tryz.prog 11 #[.slice A ps.length cap,.slice A2 ss.length cap2,.agg #[.int .i64 kind,.string text],.string purp,.string region,.int .i64 ch,.int .i64 at_,.bool false] w (WishPost w (askNo ps ss kind text purp region ch at_)):=by
 obtain ⟨i0,hi0,hz0,hz1,hz2⟩:=info_parts infoSt
 have HM0:=Lib.hid (PS.start hH ⟨kind,text⟩ #[.slice A ps.length cap,.string purp,.string region,.int .i64 ch,.int .i64 at_])
 have HM:=Lib.hid hM
 have HP:=Lib.hid hP
 have HR:=Lib.hid hR
 have HSZ:=Lib.hid hsz
 have HER:=Lib.hid (fun h0:allErr ps ss [⟨kind,text⟩] 1 purp region ch at_ = 0 => all_right h0)
 have HPA1:Hid (allErr ps ss [⟨kind,text⟩] 1 purp region ch at_ ≠ 0 → askNo ps ss kind text purp region ch at_ = (allErr ps ss [⟨kind,text⟩] 1 purp region ch at_,[])):=fun h => if_pos h
 have HPA2:Hid (allErr ps ss [⟨kind,text⟩] 1 purp region ch at_ = 0 → (askF ps ss kind text purp region ch at_).may = false → askNo ps ss kind text purp region ch at_ = (0,[])):=fun h h' => (if_neg (by simpa using h)).trans (if_pos h')
 have HPA3:Hid (allErr ps ss [⟨kind,text⟩] 1 purp region ch at_ = 0 → (askF ps ss kind text purp region ch at_).may = true → askNo ps ss kind text purp region ch at_ = askFin ss (outsF (lastNo ss) kind text purp region ch at_ [3]) (lastNo ss)):=fun h h' => (if_neg (by simpa using h)).trans (if_neg (by rw [h'];decide))
 clear hH hM hP hR hsz
 go_enter Tryz.func11,Tryz.ntmps11
 go_upto_region 2 with (fail)
 generalize (w.alloc (.cells #[.int .i64 kind,.string text] 36)).alloc (.cells #[.slice A ps.length cap,.string purp,.string region,.int .i64 ch,.int .i64 at_] 74) = W0 at *
 have hk1:=HM0.out.h1
 have hk3:=HM0.out.h3
 have i0_:W0.cell? ⟨w.heap.size,0,none⟩ = some (.int .i64 kind):=cell_h hk1 0 rfl
 have i1_:W0.cell? ⟨w.heap.size,1,none⟩ = some (.string text):=cell_h hk1 1 rfl
 have q0:W0.cell? ⟨w.heap.size + 1,0,none⟩ = some (.slice A ps.length cap):=cell_h (hk3) 0 rfl
 have q1:W0.cell? ⟨w.heap.size + 1,1,none⟩ = some (.string purp):=cell_h (hk3) 1 rfl
 have q2:W0.cell? ⟨w.heap.size + 1,2,none⟩ = some (.string region):=cell_h (hk3) 2 rfl
 have q3:W0.cell? ⟨w.heap.size + 1,3,none⟩ = some (.int .i64 ch):=cell_h (hk3) 3 rfl
 have q4:W0.cell? ⟨w.heap.size + 1,4,none⟩ = some (.int .i64 at_):=cell_h (hk3) 4 rfl
 obtain ⟨H1,hle,hblk,hin1⟩:=HM0.out.inn.put (.cells #[.int .i64 kind,.string text] 36)
 have hR1:Rw H1 (some ⟨W0.heap.size,0,none⟩) 2 fId [⟨kind,text⟩]:=Rw_blk hblk
 have HCA:=Lib.hid (checkAll_any H1 (HM.out.le hle) A cap ps A2 cap2 ss (some ⟨W0.heap.size,0,none⟩) 1 [⟨kind,text⟩] 1 purp region ch at_ _ hin1 (HP.out.le hle) hl (HR.out.le hle) (by omega) HSZ.out hR1 (by simp) (fun x hx => by simp at hx;rw [hx];exact htz) hrz)
 have HM1:=Lib.hid (HM0.out.below (new1 (.cells #[.int .i64 kind,.string text] 36)))
 clear hk1 hk3 hle hblk hin1 hR1 HM0
 go_wp2_with fail
 refine HCA.out.mono ?_
 rintro e w1 ⟨rfl,hb⟩
 have HM2:=Lib.hid (HM1.out.below hb)
 clear i0_ i1_ q0 q1 q2 q3 q4 HCA hb HM1
 generalize askNo ps ss kind text purp region ch at_ = res at *
 generalize allErr ps ss [⟨kind,text⟩] 1 purp region ch at_ = ae at *
 by_cases g1:ae = 0
 ·obtain ⟨r1,r2,r3⟩:=HER.out g1
  have HV2:=Lib.hid (HPA2.out g1)
  have HV3:=Lib.hid (HPA3.out g1)
  subst g1
  have hpol:=say_pol r1
  have hps:=pol_right hpol
  have hat:=que_at r3
  have hno:=lastNo_bd r1
  have HBD:=Lib.hid (said_bd (say_bd r1) kind text ch)
  have HSBD:=Lib.hid (say_bd r1)
  have hsl:=said_len ss kind text ch
  have HTB:=Lib.hid (term_tb hpol (purp:=purp) (region:=region) (ch:=ch))
  have HASKG:=Lib.hid (fun H' (le:H.Le H') (A':Option Addr) (cap':Nat) (ss':List StD) (hR':Rw H' A' 8 fSt ss') (hl':ss'.length < 20) W (hW:H'.In W) => ask_any H' A cap ps purp region ch at_ A' cap' ss' kind text W hW (HP.out.le le) hps.1 (fun p hp => (tes_right (hps.2 p hp)).1) hl hR' hl')
  have HASK:=Lib.hid (HASKG.out H (Frz.Le.refl _) A2 cap2 ss HR.out (by omega) w1 HM2.out.inn)
  have HSA:=Lib.hid (saidF_at ss kind text ch)
  have HAF:Hid (askF ps ss kind text purp region ch at_ = answerF (termF ps purp region ch) purp (saidF ss kind text ch) at_):=rfl
  clear HASKG
  have i0_:w1.cell? ⟨w.heap.size,0,none⟩ = some (.int .i64 kind):=cell_h HM2.out.h1 0 rfl
  have i1_:w1.cell? ⟨w.heap.size,1,none⟩ = some (.string text):=cell_h HM2.out.h1 1 rfl
  have q0:w1.cell? ⟨w.heap.size + 1,0,none⟩ = some (.slice A ps.length cap):=cell_h (HM2.out.h3) 0 rfl
  have q1:w1.cell? ⟨w.heap.size + 1,1,none⟩ = some (.string purp):=cell_h (HM2.out.h3) 1 rfl
  have q2:w1.cell? ⟨w.heap.size + 1,2,none⟩ = some (.string region):=cell_h (HM2.out.h3) 2 rfl
  have q3:w1.cell? ⟨w.heap.size + 1,3,none⟩ = some (.int .i64 ch):=cell_h (HM2.out.h3) 3 rfl
  have q4:w1.cell? ⟨w.heap.size + 1,4,none⟩ = some (.int .i64 at_):=cell_h (HM2.out.h3) 4 rfl
  clear r1 r2 r3 hpol hps HER HPA1 HPA2 HPA3
  generalize hsd:saidF ss kind text ch = sd at *
  clear hsd
  generalize termF ps purp region ch = o at *
  go_wp2_with fail
  refine HASK.out.mono ?_
  rintro e w2 ⟨v,rfl,hO,hb⟩
  obtain ⟨A4,cap4,H2,hv,hle4,p1,p2,hR4,p3,-⟩:=hO.freeze H
  subst hv
  have hin2:=p1 (HM2.out.inn.below hb)
  have hle2:=p2 (fun g hg => HM2.out.inn.none_ (hO.lt hg).1)
  have hM2:=HM2.out.below hb
  have HM2':Hid (PS H2 w ⟨kind,text⟩ #[.slice A ps.length cap,.string purp,.string region,.int .i64 ch,.int .i64 at_] w2):=⟨hin2,hM2.bel,hM2.h1,hM2.h3⟩
  clear i0_ i1_ q0 q1 q2 q3 q4 HASK
  obtain ⟨t,ht,-⟩:=terV_eq o
  have HT:Hid (o.getD zeroTe = t):=ht.symm
  have HTT:Hid (∀ t',o = some t' → t' = t):=fun t' h => by rw [ht,h];rfl
  rw [HT.out]
  clear ht
  obtain ⟨H3,le3,hblk3,hin3⟩:=hin2.put (.cells #[.string t.region,.int .i64 t.ch,.bool t.free,.int .i64 t.days,.int .i64 t.wait,.bool o.isSome,.string purp,.slice A4 sd.length cap4] 81)
  have hM3:=hM2.below (new1 (.cells #[.string t.region,.int .i64 t.ch,.bool t.free,.int .i64 t.days,.int .i64 t.wait,.bool o.isSome,.string purp,.slice A4 sd.length cap4] 81))
  have HM3:Hid (PS H3 w ⟨kind,text⟩ #[.slice A ps.length cap,.string purp,.string region,.int .i64 ch,.int .i64 at_] (w2.alloc (.cells #[.string t.region,.int .i64 t.ch,.bool t.free,.int .i64 t.days,.int .i64 t.wait,.bool o.isSome,.string purp,.slice A4 sd.length cap4] 81))):=⟨hin3,hM3.bel,hM3.h1,hM3.h3⟩
  have HLE3:=Lib.hid (hle2.trans le3)
  have HR3:=Lib.hid (hR4.le le3)
  have HBK3:=Lib.hid hblk3
  have HAN:=Lib.hid (fun W (hW:H3.In W) => answer_any H3 A4 cap4 sd o purp at_ W hW (hR4.le le3) HSA.out (by omega) hle4 HBD.out HTB.out (by omega) (by omega))
  rw [HT.out] at HAN
  clear hO p1 p2 p3 hR4 hin2 hb le3 hin3 hblk3 HM2 HM2' hM2 hM3 hle2
  go_upto_region 6 with (fail)
  generalize w2.alloc (.cells #[.string t.region,.int .i64 t.ch,.bool t.free,.int .i64 t.days,.int .i64 t.wait,.bool o.isSome,.string purp,.slice A4 sd.length cap4] 81) = W3 at *
  generalize w2.heap.size = qb at *
  have a0:W3.cell? ⟨qb,0,none⟩ = some (.string t.region):=cell_h (HM3.out.inn _ _ HBK3.out) 0 rfl
  have a1:W3.cell? ⟨qb,1,none⟩ = some (.int .i64 t.ch):=cell_h (HM3.out.inn _ _ HBK3.out) 1 rfl
  have a2:W3.cell? ⟨qb,2,none⟩ = some (.bool t.free):=cell_h (HM3.out.inn _ _ HBK3.out) 2 rfl
  have a3:W3.cell? ⟨qb,3,none⟩ = some (.int .i64 t.days):=cell_h (HM3.out.inn _ _ HBK3.out) 3 rfl
  have a4:W3.cell? ⟨qb,4,none⟩ = some (.int .i64 t.wait):=cell_h (HM3.out.inn _ _ HBK3.out) 4 rfl
  have a5:W3.cell? ⟨qb,5,none⟩ = some (.bool o.isSome):=cell_h (HM3.out.inn _ _ HBK3.out) 5 rfl
  have a6:W3.cell? ⟨qb,6,none⟩ = some (.string purp):=cell_h (HM3.out.inn _ _ HBK3.out) 6 rfl
  have a7:W3.cell? ⟨qb,7,none⟩ = some (.slice A4 sd.length cap4):=cell_h (HM3.out.inn _ _ HBK3.out) 7 rfl
  go_wp2_with fail
  refine (HAN.out _ HM3.out.inn).mono ?_
  rintro e w4 ⟨rfl,hb⟩
  rw [← HAF.out]
  clear a0 a1 a2 a3 a4 a5 a6 a7
  generalize askF ps ss kind text purp region ch at_ = ans at HV2 HV3 HAF ⊢
  obtain ⟨am,ay,an⟩:=ans
  rw [show ansV ⟨am,ay,an⟩ = .agg #[.bool am,.int .i64 ay,.int .i64 an] from rfl]
  have hf0:∀ W,(Instr.field 44 (.agg #[.bool am,.int .i64 ay,.int .i64 an]) 0).run Tryz.prog W = .ok (.bool am) W:=fun W => by kernel_rfl
  have HM4:=Lib.hid (HM3.out.below hb)
  clear hb HM3
  cases am with
  | false =>
   have HV:=Lib.hid (HV2.out rfl)
   clear HV2 HV3
   go_wp2_with fail
   go_ret2
   exact WishPost.nil HV.out HM4.out.bel
  | true =>
   have HVX:=Lib.hid (HV3.out rfl)
   clear HV2 HV3
   obtain ⟨H5,le5,hblk5,hin5⟩:=HM4.out.inn.put (.cells #[.int .i64 3] 3)
   have hM5:=HM4.out.below (new1 (.cells #[.int .i64 3] 3))
   have HM5:Hid (PS H5 w ⟨kind,text⟩ #[.slice A ps.length cap,.string purp,.string region,.int .i64 ch,.int .i64 at_] (w4.alloc (.cells #[.int .i64 3] 3))):=⟨hin5,hM5.bel,hM5.h1,hM5.h3⟩
   have HLE5:=Lib.hid (HLE3.out.trans le5)
   have HW5:Hid (Rw H5 (some ⟨w4.heap.size,0,none⟩) 1 fI [3]):=Rw_blk (T:=3) hblk5
   clear le5 hblk5 hin5 hM5 HM4
   go_upto_if 62 with (fail)
   go_cut [22] (fun s22 wx => s22 = .int .i64 (lastNo ss) ∧ wx = (w4.alloc (.cells #[.int .i64 3] 3)))
   case first =>
    by_cases hne:ss.length = 0
    ·have k0:((ss.length:Nat):Int) = 0:=by omega
     have HNO:Hid (lastNo ss = 0):=dif_pos hne
     clear hne
     go_wp2_with fail
     go_meet
     exact ⟨by rw [HNO.out],rfl⟩
    ·have k1:decide ((0:Int) < (ss.length:Int)) = true:=decide_eq_true (by omega)
     have hlt9:ss.length - 1 < ss.length:=by omega
     have HNO:Hid (lastNo ss = (ss[ss.length - 1]).no):=dif_neg hne
     obtain ⟨b2,off2,hA2,hbl2,hc2⟩:=HR.out.at_ (HM5.out.inn.le HLE5.out) (i:=ss.length - 1) hlt9 (by omega)
     subst hA2
     have y0:(w4.alloc (.cells #[.int .i64 3] 3)).cell? ⟨b2,off2 + (ss.length - 1) * 8,none⟩ = some (.int .i64 (ss[ss.length - 1]).no):=hc2 0 (by omega)
     have e1:IntKind.i64.wrap ((ss.length:Int) - 1) = (ss.length:Int) - 1:=IntWalk.i64_in _ (by omega)
     have e2:((ss.length:Int) - 1).toNat = ss.length - 1:=by omega
     have e3:(0:Int) ≤ (ss.length:Int) - 1:=by omega
     have e4:(ss.length:Int) - 1 < ss.length:=by omega
     have e5:(1:Int) ≤ (ss.length:Int):=by omega
     clear hc2
     generalize ss[ss.length - 1] = sl at *
     clear hne hlt9
     go_wp2_with fail
     go_meet
     exact ⟨by rw [HNO.out],rfl⟩
   case rest =>
   obtain ⟨rfl,hwx⟩:=hcut
   obtain rfl:=hwx.symm
   generalize hW5:w4.alloc (.cells #[.int .i64 3] 3) = W5 at *
   clear hW5
   generalize w4.heap.size = wb at *
   obtain ⟨ws,hws⟩:∃ ws:List Int,ws = [3]:=⟨_,rfl⟩
   rw [← hws] at HVX HW5
   have hwl:ws.length = 1:=by rw [hws];rfl
   have hwl2:((ws.length:Nat):Int) = 1:=by omega
   clear hws
   go_wp2_with fail
   generalize hno':lastNo ss = no at *
   clear hno'
   have HIG0:Hid (IG 53 8 fSt H5 W5.heap.size (.slice none 0 0) ([]:List StD) w W5):=⟨HM5.out.inn,Orow.nil _ _ _ _ _,fun g hg => by simp [Value.ownBlock] at hg,HM5.out.bel,HM5.out.bel.size,Nat.le_refl _⟩
   have HXB:=Lib.hid HM5.out.h1
   have HXL:=Lib.hid (lt_of_heap HM5.out.h1)
   generalize hib:W5.heap.size = ib at *
   go_loopw [23,24,25,26,72] (fun t23 _ _ _ t72 wr => ∃ (i:Nat) (v':Value),i ≤ ws.length ∧ t23 = v' ∧ t72 = .int .i64 i ∧ Hid (IG 53 8 fSt H5 ib v' ((outsF no kind text purp region ch at_ ws).take i) w wr) ∧ Hid (Below ib W5 wr)) (fun _ _ _ _ t _ => ws.length - (intOf t).toNat)
   case atStart => exact ⟨0,_,by omega,rfl,rfl,HIG0,Below.refl _ _⟩
   case round =>
    obtain ⟨i,v',hi,rfl,rfl,hI,hBW⟩:=hrel
    clear HIG0
    by_cases hlt:i < ws.length
    ·obtain ⟨b5,off5,hA5,hbl5,hc5⟩:=HW5.out.at_ hI.out.inn hlt (by omega)
     injection hA5 with hA5
     injection hA5 with hA5 hA6
     subst hA5 hA6
     have y0:=hc5 0 (by omega)
     rw [show 0 + i * 1 + 0 = i from by omega] at y0
     unfold fI at y0
     have hx1:=(hBW.out.block _ HXL.out).trans HXB.out
     have x0:wr.cell? ⟨w.heap.size,0,none⟩ = some (.int .i64 kind):=cell_h hx1 0 rfl
     have x1:wr.cell? ⟨w.heap.size,1,none⟩ = some (.string text):=cell_h hx1 1 rfl
     have HTK:=Lib.hid (outsF_take (no:=no) (kind:=kind) (text:=text) (purp:=purp) (region:=region) (ch:=ch) (at_:=at_) hlt)
     have e1:IntKind.i64.wrap (no + 1) = no + 1:=IntWalk.i64_in _ (by omega)
     have e2:IntKind.i64.wrap (no + 1 + (i:Int)) = no + 1 + (i:Int):=IntWalk.i64_in _ (by omega)
     clear hc5 hx1
     generalize ws[i] = wv at *
     have HI8:=Lib.hid (hI.out.below (new1 (.cells #[.int .i64 (no + 1 + (i:Int)),.int .i64 at_,.int .i64 kind,.string text,.string purp,.string region,.int .i64 ch,.int .i64 wv] 53)))
     have HB8:=Lib.hid (hBW.out.trans ((new1 (w:=wr) (.cells #[.int .i64 (no + 1 + (i:Int)),.int .i64 at_,.int .i64 kind,.string text,.string purp,.string region,.int .i64 ch,.int .i64 wv] 53)).mono hI.out.le))
     have HNB:Hid ((wr.alloc (.cells #[.int .i64 (no + 1 + (i:Int)),.int .i64 at_,.int .i64 kind,.string text,.string purp,.string region,.int .i64 ch,.int .i64 wv] 53)).heap[wr.heap.size]? = some (.cells #[.int .i64 (no + 1 + (i:Int)),.int .i64 at_,.int .i64 kind,.string text,.string purp,.string region,.int .i64 ch,.int .i64 wv] 53)):=heap_alloc_new _ _
     have HNN:Hid (u23.ownBlock ≠ some wr.heap.size ∧ H5 wr.heap.size = none ∧ w.heap.size ≤ wr.heap.size ∧ ib ≤ wr.heap.size):=⟨fun e => by have:=(hI.out.row.lt e).2;omega,hI.out.inn.none_ (Nat.le_refl _),hI.out.bel.size,hI.out.le⟩
     clear hI hBW
     go_upto_region 21 with (fail)
     generalize wr.alloc (.cells #[.int .i64 (no + 1 + (i:Int)),.int .i64 at_,.int .i64 kind,.string text,.string purp,.string region,.int .i64 ch,.int .i64 wv] 53) = W8 at *
     generalize wr.heap.size = nb at *
     clear x0 x1 y0 e1 e2
     go_wp2_with fail
     refine (ofChannel_any wv _).mono ?_
     rintro e w9 ⟨rfl,rfl⟩
     cases hoc:ofCh wv with
     | true =>
      have HD:Hid (outSt no kind text purp region ch at_ i wv = ⟨no + 1 + i,at_,kind,text,⟨#[]⟩,region,ch,wv⟩):=by show _ = _;unfold outSt;rw [if_pos hoc]
      have hfz:=froz_h HNB.out 4
      have z4:W8.cell? ⟨nb,4,none⟩ = some (.string purp):=cell_h HNB.out 4 rfl
      have HNB2:=Lib.hid (set_at (m:=4) HNB.out (.string ⟨#[]⟩))
      have HI9:=Lib.hid (HI8.out.setNew (nb:=nb) (m:=4) (x:=.string ⟨#[]⟩) HNN.out.2.2.1 HNN.out.1 HNN.out.2.1)
      have HB9:Hid (Below ib W5 (W8.setCell ⟨nb,4,none⟩ (.string ⟨#[]⟩))):=HB8.out.setCell HNN.out.2.2.2 _
      clear HI8 HB8 HNB hoc
      go_upto_region 23 with (fail)
      generalize W8.setCell ⟨nb,4,none⟩ (.string ⟨#[]⟩) = W9 at *
      have z0:W9.cell? ⟨nb,0,none⟩ = some (.int .i64 (no + 1 + (i:Int))):=cell_h HNB2.out 0 rfl
      have z1:W9.cell? ⟨nb,1,none⟩ = some (.int .i64 at_):=cell_h HNB2.out 1 rfl
      have z2:W9.cell? ⟨nb,2,none⟩ = some (.int .i64 kind):=cell_h HNB2.out 2 rfl
      have z3:W9.cell? ⟨nb,3,none⟩ = some (.string text):=cell_h HNB2.out 3 rfl
      have z4:W9.cell? ⟨nb,4,none⟩ = some (.string ⟨#[]⟩):=cell_h HNB2.out 4 rfl
      have z5:W9.cell? ⟨nb,5,none⟩ = some (.string region):=cell_h HNB2.out 5 rfl
      have z6:W9.cell? ⟨nb,6,none⟩ = some (.int .i64 ch):=cell_h HNB2.out 6 rfl
      have z7:W9.cell? ⟨nb,7,none⟩ = some (.int .i64 wv):=cell_h HNB2.out 7 rfl
      rw [HD.out] at HTK
      have HRow:=Lib.hid HI9.out.row
      have HST:=Lib.hid (fun v' W' o g1 at1 => HI9.out.app (v':=v') (W':=W') (ds':=(outsF no kind text purp region ch at_ ws).take i ++ [⟨no + 1 + i,at_,kind,text,⟨#[]⟩,region,ch,wv⟩]) o g1 at1)
      have HSB:=Lib.hid (fun W' (g1:W9.grownBy W' u23.ownBlock) => HB9.out.grown g1 (show ib ≤ W9.heap.size from HI9.out.le) (fun q hq => (HI9.out.row.lt hq).1))
      have hB9:=HI9.out.le
      have hpl:((outsF no kind text purp region ch at_ ws).take i).length ≤ 4294967296:=by rw [List.length_take];omega
      generalize (outsF no kind text purp region ch at_ ws).take i = zs at *
      clear HI9 HB9 HD
      go_wp2_with (at_builtin;refine wpList_app_at rfl _ _ 32 rfl ib 53 i0 (.agg #[.int .i64 0,.int .i64 0,.int .i64 0,.string ⟨#[]⟩,.string ⟨#[]⟩,.string ⟨#[]⟩,.int .i64 0,.int .i64 0]) 8 88 Tryz.underlying32 hi0 hz0 hz1 hz2 rfl (by decide) fSt _ zs rfl HRow.out ⟨no + 1 + i,at_,kind,text,⟨#[]⟩,region,ch,wv⟩ #[.int .i64 (no + 1 + (i:Int)),.int .i64 at_,.int .i64 kind,.string text,.string ⟨#[]⟩,.string region,.int .i64 ch,.int .i64 wv] 53 rfl rfl (by simp [Value.oneCell']) hpl (by omega) hB9 ?_;intro v1 WM o1 g1 b1 at1;have HI11:=Lib.hid (HST.out _ _ o1 g1 at1);have HB11:=Lib.hid (HSB.out _ g1);clear o1 g1 b1 at1 HST HRow HSB)
      rw [← HTK.out] at HI11
      go_roundw
      case rel => exact ⟨i + 1,v1,by omega,rfl,by go_num,HI11,HB11⟩
      case measure => simp [intOf];omega
     | false =>
      have HD:Hid (outSt no kind text purp region ch at_ i wv = ⟨no + 1 + i,at_,kind,text,purp,region,ch,wv⟩):=by show _ = _;unfold outSt;rw [if_neg (by rw [hoc];decide)]
      have HNB2:=HNB
      have HI9:=HI8
      have HB9:=HB8
      clear HI8 HB8 HNB hoc
      go_upto_region 23 with (fail)
      obtain ⟨W9,rfl⟩:∃ W9:World,W9 = W8:=⟨_,rfl⟩
      have z0:W9.cell? ⟨nb,0,none⟩ = some (.int .i64 (no + 1 + (i:Int))):=cell_h HNB2.out 0 rfl
      have z1:W9.cell? ⟨nb,1,none⟩ = some (.int .i64 at_):=cell_h HNB2.out 1 rfl
      have z2:W9.cell? ⟨nb,2,none⟩ = some (.int .i64 kind):=cell_h HNB2.out 2 rfl
      have z3:W9.cell? ⟨nb,3,none⟩ = some (.string text):=cell_h HNB2.out 3 rfl
      have z4:W9.cell? ⟨nb,4,none⟩ = some (.string purp):=cell_h HNB2.out 4 rfl
      have z5:W9.cell? ⟨nb,5,none⟩ = some (.string region):=cell_h HNB2.out 5 rfl
      have z6:W9.cell? ⟨nb,6,none⟩ = some (.int .i64 ch):=cell_h HNB2.out 6 rfl
      have z7:W9.cell? ⟨nb,7,none⟩ = some (.int .i64 wv):=cell_h HNB2.out 7 rfl
      rw [HD.out] at HTK
      have HRow:=Lib.hid HI9.out.row
      have HST:=Lib.hid (fun v' W' o g1 at1 => HI9.out.app (v':=v') (W':=W') (ds':=(outsF no kind text purp region ch at_ ws).take i ++ [⟨no + 1 + i,at_,kind,text,purp,region,ch,wv⟩]) o g1 at1)
      have HSB:=Lib.hid (fun W' (g1:W9.grownBy W' u23.ownBlock) => HB9.out.grown g1 (show ib ≤ W9.heap.size from HI9.out.le) (fun q hq => (HI9.out.row.lt hq).1))
      have hB9:=HI9.out.le
      have hpl:((outsF no kind text purp region ch at_ ws).take i).length ≤ 4294967296:=by rw [List.length_take];omega
      generalize (outsF no kind text purp region ch at_ ws).take i = zs at *
      clear HI9 HB9 HD
      go_wp2_with (at_builtin;refine wpList_app_at rfl _ _ 32 rfl ib 53 i0 (.agg #[.int .i64 0,.int .i64 0,.int .i64 0,.string ⟨#[]⟩,.string ⟨#[]⟩,.string ⟨#[]⟩,.int .i64 0,.int .i64 0]) 8 88 Tryz.underlying32 hi0 hz0 hz1 hz2 rfl (by decide) fSt _ zs rfl HRow.out ⟨no + 1 + i,at_,kind,text,purp,region,ch,wv⟩ #[.int .i64 (no + 1 + (i:Int)),.int .i64 at_,.int .i64 kind,.string text,.string purp,.string region,.int .i64 ch,.int .i64 wv] 53 rfl rfl (by simp [Value.oneCell']) hpl (by omega) hB9 ?_;intro v1 WM o1 g1 b1 at1;have HI11:=Lib.hid (HST.out _ _ o1 g1 at1);have HB11:=Lib.hid (HSB.out _ g1);clear o1 g1 b1 at1 HST HRow HSB)
      rw [← HTK.out] at HI11
      go_roundw
      case rel => exact ⟨i + 1,v1,by omega,rfl,by go_num,HI11,HB11⟩
      case measure => simp [intOf];omega
    ·have hie:i = ws.length:=by omega
     subst hie
     rw [← outsF_len (no:=no) (kind:=kind) (text:=text) (purp:=purp) (region:=region) (ch:=ch) (at_:=at_) (ws:=ws),List.take_length] at hI
     have HROW:=Lib.hid (hI.out.row.mono hI.out.hB)
     have HBE:=Lib.hid hI.out.bel
     have holen:(outsF no kind text purp region ch at_ ws).length ≤ 2:=by rw [outsF_len];omega
     obtain ⟨A6,cap6,hv6,hle6⟩:=hI.out.row.slice
     subst hv6
     generalize outsF no kind text purp region ch at_ ws = outs at *
     clear hI hBW
     have k1:decide ((3000:Int) < (ss.length:Int) + (outs.length:Int)) = false:=by simp;omega
     have e3:IntKind.i64.wrap ((ss.length:Int) + (outs.length:Int)) = (ss.length:Int) + (outs.length:Int):=IntWalk.i64_in _ (by omega)
     have e4:IntKind.i64.wrap (no + (outs.length:Int)) = no + (outs.length:Int):=IntWalk.i64_in _ (by omega)
     by_cases g9:1000000 < no + (outs.length:Int)
     ·have k2:decide ((1000000:Int) < no + (outs.length:Int)) = true:=by simpa using g9
      have HV:=Lib.hid (HVX.out.trans (if_pos (Or.inr g9)))
      clear g9 HVX
      go_wp2_with fail
      go_ret2
      exact WishPost.nil HV.out HBE.out
     ·have k2:decide ((1000000:Int) < no + (outs.length:Int)) = false:=by simpa using g9
      have HV:=Lib.hid (HVX.out.trans (if_neg (show ¬ (3000 < ss.length + outs.length ∨ 1000000 < no + (outs.length:Int)) by omega)))
      clear g9 HVX
      go_wp2_with fail
      go_ret2
      rw [HV.out]
      exact ⟨_,rfl,HROW.out,HBE.out⟩
 ·have HV:=Lib.hid (HPA1.out g1)
  have k1:(ae != 0) = true:=by simpa using g1
  clear HPA1 HPA2 HPA3 HER
  go_wp2_with fail
  go_ret2
  exact WishPost.nil HV.out HM2.out.bel
end Go.Proofs.YtcncifmanodabaaGreatDoor
