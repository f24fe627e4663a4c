/- Texts of this claim, put together: KeepEv, SortK, CloneEv, SortEv, RightEv. -/
import Derived.Test.YtfmnlpmgakgleaaGreatDoorGAV
import Derived.Test.YtfmnlpmgakgleaaGreatDoorGAH
import Derived.Test.YtfmnlpmgakgleaaGreatDoorGAG
import Derived.Shelf.SlSortCmp.NoneTotal
import Derived.Test.YtfmnlpmgakgleaaGreatDoorGAD
import Derived.StillTailTactics
import Derived.Deep.Cut
import Derived.Test.YtfmnlpmgakgleaaGreatDoorLaySort
import Derived.Test.YtfmnlpmgakgleaaGreatDoorGAO
import Derived.Test.YtfmnlpmgakgleaaGreatDoorGAM
import Derived.Test.YtfmnlpmgakgleaaGreatDoorGAN
namespace Go.Proofs.YtfmnlpmgakgleaaGreatDoor
set_option linter.unusedVariables false
open Go.RowKit
set_option maxHeartbeats 4000000 in
set_option maxRecDepth 100000 in
theorem fault1_any (H:Frz) (hU:UtfIn H) (hM:MLen H) (q:Nat) (d:EvD) (W:World) (hH:H.In W) (hq:W.heap[q]? = some (.cells #[.string d.id,.string d.name,.int .i64 d.at_,.int .i64 d.kind,.string d.text,.slice d.fa d.fields.length d.fc] 42)) (hd:EvIn H d) :
  Calls Tryz.prog 44 #[.slice (some ⟨q,0,none⟩) 1 1] W (RefPost W (evE okT d)):=by
 have HH:=Lib.hid hH
 have HQ:=Lib.hid hq
 have HI:=Lib.hid hd
 have HCO:=Lib.hid (fun W (hW:H.In W) => refEv_any H hU hM d W hW hd)
 have hmm:=@run_makeMap Tryz.prog
 have HNEW:=Lib.hid (ES.new W)
 have hl':decide ((5000:Int) < 1) = false:=by decide
 clear hH hq hd hU hM
 go_enter Tryz.func44,Tryz.ntmps44
 go_wp2_with fail
 clear hmm
 go_loopw [13] (fun t wr => ∃ i:Nat,i ≤ 1 ∧ t = .int .i64 i ∧ Hid (i = 0 → ES W W.heap.size 0 [] wr) ∧ Hid (1 ≤ i → evE okT d = 0) ∧ Hid (Below W.heap.size W wr)) (fun t _ => 1 - (intOf t).toNat)
 case atStart => exact ⟨0,by omega,rfl,(fun _ => HNEW.out),(fun h => by omega),HNEW.out.bel⟩
 case round =>
  obtain ⟨i,hi,rfl,hinv,h1,hb⟩:=hrel
  clear HNEW
  have hcs:i = 0 ∨ i = 1:=by omega
  rcases hcs with rfl | rfl
  ·have hE:=hinv.out rfl
   have hin:=HH.out.below hb.out
   have hqk:=(hb.out.block q (lt_of_heap HQ.out)).trans HQ.out
   have c0:=cell_h hqk 0 (v:=.string d.id) rfl
   have c1:=cell_h hqk 1 (v:=.string d.name) rfl
   have c2:=cell_h hqk 2 (v:=.int .i64 d.at_) rfl
   have c3:=cell_h hqk 3 (v:=.int .i64 d.kind) rfl
   have c4:=cell_h hqk 4 (v:=.string d.text) rfl
   have c5:=cell_h hqk 5 (v:=.slice d.fa d.fields.length d.fc) rfl
   have HID:=HI.out.idz
   have z0:(wr.alloc (.cells #[.string d.id,.string d.name,.int .i64 d.at_,.int .i64 d.kind,.string d.text,.slice d.fa d.fields.length d.fc] 42)).cell? ⟨wr.heap.size,0,none⟩ = some (.string d.id):=newc 0 rfl
   have z1:(wr.alloc (.cells #[.string d.id,.string d.name,.int .i64 d.at_,.int .i64 d.kind,.string d.text,.slice d.fa d.fields.length d.fc] 42)).cell? ⟨wr.heap.size,1,none⟩ = some (.string d.name):=newc 1 rfl
   have z2:(wr.alloc (.cells #[.string d.id,.string d.name,.int .i64 d.at_,.int .i64 d.kind,.string d.text,.slice d.fa d.fields.length d.fc] 42)).cell? ⟨wr.heap.size,2,none⟩ = some (.int .i64 d.at_):=newc 2 rfl
   have z3:(wr.alloc (.cells #[.string d.id,.string d.name,.int .i64 d.at_,.int .i64 d.kind,.string d.text,.slice d.fa d.fields.length d.fc] 42)).cell? ⟨wr.heap.size,3,none⟩ = some (.int .i64 d.kind):=newc 3 rfl
   have z4:(wr.alloc (.cells #[.string d.id,.string d.name,.int .i64 d.at_,.int .i64 d.kind,.string d.text,.slice d.fa d.fields.length d.fc] 42)).cell? ⟨wr.heap.size,4,none⟩ = some (.string d.text):=newc 4 rfl
   have z5:(wr.alloc (.cells #[.string d.id,.string d.name,.int .i64 d.at_,.int .i64 d.kind,.string d.text,.slice d.fa d.fields.length d.fc] 42)).cell? ⟨wr.heap.size,5,none⟩ = some (.slice d.fa d.fields.length d.fc):=newc 5 rfl
   have HBN:=Lib.hid (new1 (w:=wr) (.cells #[.string d.id,.string d.name,.int .i64 d.at_,.int .i64 d.kind,.string d.text,.slice d.fa d.fields.length d.fc] 42))
   have HI2:=Lib.hid (hE.alloc (.cells #[.string d.id,.string d.name,.int .i64 d.at_,.int .i64 d.kind,.string d.text,.slice d.fa d.fields.length d.fc] 42))
   have HIN2:=Lib.hid (hin.below HBN.out)
   clear hin HBN hinv h1 hb hE hqk
   go_upto_region 7 with (fail)
   clear c0 c1 c2 c3 c4 c5
   generalize wr.alloc (.cells #[.string d.id,.string d.name,.int .i64 d.at_,.int .i64 d.kind,.string d.text,.slice d.fa d.fields.length d.fc] 42) = W1 at *
   generalize wr.heap.size = g at *
   go_wp2_with fail
   refine (HCO.out _ HIN2.out).mono ?_
   rintro e W2 ⟨ie,rfl,hie,hb2⟩
   have HIE:=Lib.hid hie
   have HI3:=Lib.hid (HI2.out.call hb2)
   have y0:=lift_cell z0 _ hb2
   clear hie hb2 z0 z1 z2 z3 z4 z5 HI2 HIN2
   by_cases gz:ie = 0
   ·have k3:(ie != 0) = false:=by simpa using gz
    have HOK:=Lib.hid (HIE.out gz)
    have HK1:=Lib.hid (strKey (s:=d.id) (by omega))
    have HGET:Hid ((setMp [] (codeLit d.id)).getD (.bool false) = .bool false):=rfl
    have HML:Hid (0 < maxLen):=by show _ < _;unfold maxLen;omega
    clear gz
    go_upto_region 10 with (fail)
    (refine wp_region_det 11 43 (fun W => Below (W2).heap.size (W2) W) (by kernel_rfl) (by kernel_rfl) (by rfl) (Below.refl _ _).drew ?_;simp only [List.take_succ_cons,List.take_zero,List.drop_succ_cons,List.drop_zero])
    iterate 3 (refine detSeq_op rfl ?_ (fun W hW => ?_) ?_;rotate_left;(focus simp only [OpV];go_simp;first | exact rfl | exact ⟨rfl,hW⟩))
    iterate 8 (refine detSeq_no (by kernel_rfl) ?_)
    refine detSeq_nil (fun W3 hW3 => ?_)
    have HI4:=Lib.hid (HI3.out.call hW3)
    have x0:=lift_cell y0 _ hW3
    clear y0 hW3
    go_wp2_with (first | (at_lookup;refine wpList_mp_getv _ rfl _ _ 126 rfl 9 4 strKeyed Tryz.underlying126 (.bool false) (zeroBool _) W.heap.size 0 (setMp []) rfl HI4.out.map _ _ rfl HK1.out _ HGET.out ?_) | (at_mapUpdate;refine wpList_mp_set _ rfl _ _ _ 126 rfl 9 4 strKeyed Tryz.underlying126 W.heap.size 0 (setMp []) rfl HI4.out.map HML.out _ _ _ rfl rfl HK1.out ?_;intro w5 hM5 hg5 hz5;have HI5:=Lib.hid (HI4.out.put hM5 hg5).bel;clear hM5 hg5 hz5))
    go_roundw
    case rel => exact ⟨1,by omega,by go_num,(fun h => by omega),(fun _ => HOK.out),HI5⟩
    case measure => simp [intOf]
   ·have k3:(ie != 0) = true:=by simpa using gz
    have HF:=Lib.hid (RefPost.bad (z0:=evE okT d) gz HI3.out.bel)
    clear gz
    go_wp2_with fail
    go_ret
    exact HF.out
  ·have HF:=Lib.hid (RefPost.good (h1.out (by omega)) hb.out)
   go_wp2_with fail
   go_ret
   exact HF.out
def KeptE (d:EvD):Prop:=evE okT d = 0 ∧ d.id.size = 3 ∧ d.at_ ≤ 100000
def KeepPost (w:World) (d:EvD) (e:Ending) (w':World):Prop:=(∃ x:Bool,e = .returned (.bool x) ∧ (x = false → KeptE d)) ∧ Below w.heap.size w w'
set_option maxHeartbeats 4000000 in
set_option maxRecDepth 100000 in
theorem keep_any (H:Frz) (hU:UtfIn H) (hM:MLen H) (d:EvD) (w:World) (hH:H.In w) (hd:EvIn H d) :
  Calls Tryz.prog 43 #[.agg #[.string d.id,.string d.name,.int .i64 d.at_,.int .i64 d.kind,.string d.text,.slice d.fa d.fields.length d.fc]] w (KeepPost w d):=by
 have z0:(w.alloc (.cells #[.string d.id,.string d.name,.int .i64 d.at_,.int .i64 d.kind,.string d.text,.slice d.fa d.fields.length d.fc] 42)).cell? ⟨w.heap.size,0,none⟩ = some (.string d.id):=newc 0 rfl
 have z1:(w.alloc (.cells #[.string d.id,.string d.name,.int .i64 d.at_,.int .i64 d.kind,.string d.text,.slice d.fa d.fields.length d.fc] 42)).cell? ⟨w.heap.size,1,none⟩ = some (.string d.name):=newc 1 rfl
 have z2:(w.alloc (.cells #[.string d.id,.string d.name,.int .i64 d.at_,.int .i64 d.kind,.string d.text,.slice d.fa d.fields.length d.fc] 42)).cell? ⟨w.heap.size,2,none⟩ = some (.int .i64 d.at_):=newc 2 rfl
 have z3:(w.alloc (.cells #[.string d.id,.string d.name,.int .i64 d.at_,.int .i64 d.kind,.string d.text,.slice d.fa d.fields.length d.fc] 42)).cell? ⟨w.heap.size,3,none⟩ = some (.int .i64 d.kind):=newc 3 rfl
 have z4:(w.alloc (.cells #[.string d.id,.string d.name,.int .i64 d.at_,.int .i64 d.kind,.string d.text,.slice d.fa d.fields.length d.fc] 42)).cell? ⟨w.heap.size,4,none⟩ = some (.string d.text):=newc 4 rfl
 have z5:(w.alloc (.cells #[.string d.id,.string d.name,.int .i64 d.at_,.int .i64 d.kind,.string d.text,.slice d.fa d.fields.length d.fc] 42)).cell? ⟨w.heap.size,5,none⟩ = some (.slice d.fa d.fields.length d.fc):=newc 5 rfl
 have HBN:=Lib.hid (new1 (w:=w) (.cells #[.string d.id,.string d.name,.int .i64 d.at_,.int .i64 d.kind,.string d.text,.slice d.fa d.fields.length d.fc] 42))
 have HIN:=Lib.hid (hH.below HBN.out)
 have HI:=Lib.hid hd
 have HFA:=Lib.hid (fun q W (hW:H.In W) hq => fault1_any H hU hM q d W hW hq hd)
 clear hU hM hH hd
 go_enter Tryz.func43,Tryz.ntmps43
 go_upto_region 1 with (fail)
 generalize w.alloc (.cells #[.string d.id,.string d.name,.int .i64 d.at_,.int .i64 d.kind,.string d.text,.slice d.fa d.fields.length d.fc] 42) = W1 at *
 have hsz:d.id.size ≤ 1000:=HI.out.idz
 go_wp2_with fail
 refine (HFA.out W1.heap.size _ (HIN.out.alloc _) (heap_alloc_new _ _)).mono ?_
 rintro e W2 ⟨ie,rfl,hie,hb2⟩
 have hb3:=(new1 (w:=W1) (.cells #[.string d.id,.string d.name,.int .i64 d.at_,.int .i64 d.kind,.string d.text,.slice d.fa d.fields.length d.fc] 42)).trans (hb2.mono (by simp))
 have HB2:=Lib.hid (HBN.out.trans (hb3.mono HBN.out.size))
 have y0:=lift_cell z0 _ hb3
 have y2:=lift_cell z2 _ hb3
 have HIE:=Lib.hid hie
 clear hie hb2 hb3 z0 z1 z2 z3 z4 z5 HIN HBN HFA
 by_cases g1:ie = 0
 ·have k1:(ie != 0) = false:=by simpa using g1
  have HOK:=Lib.hid (HIE.out g1)
  clear g1
  by_cases g2:d.id.size = 3
  ·have k2:((d.id.size:Int) != 3) = false:=by rw [g2];rfl
   by_cases g3:d.at_ ≤ 100000
   ·have k3:decide ((100000:Int) < d.at_) = false:=by simpa using g3
    have HF:Hid (KeepPost w d (.returned (.bool false)) W2):=⟨⟨false,rfl,fun _ => ⟨HOK.out,g2,g3⟩⟩,HB2.out⟩
    clear g2 g3 hsz
    go_wp2_with fail
    go_ret
    exact HF.out
   ·have k3:decide ((100000:Int) < d.at_) = true:=by simpa using g3
    have HF:Hid (KeepPost w d (.returned (.bool true)) W2):=⟨⟨true,rfl,fun h => (by cases h)⟩,HB2.out⟩
    clear g2 g3 hsz
    go_wp2_with fail
    go_ret
    exact HF.out
  ·have k2:((d.id.size:Int) != 3) = true:=by simpa using (fun c => g2 (by omega))
   have HF:Hid (KeepPost w d (.returned (.bool true)) W2):=⟨⟨true,rfl,fun h => (by cases h)⟩,HB2.out⟩
   clear g2 hsz
   go_wp2_with fail
   go_ret
   exact HF.out
 ·have k1:(ie != 0) = true:=by simpa using g1
  have HF:Hid (KeepPost w d (.returned (.bool true)) W2):=⟨⟨true,rfl,fun h => (by cases h)⟩,HB2.out⟩
  clear g1
  go_wp2_with fail
  go_ret
  exact HF.out
open Go.RowKit Go.Sort
section
variable {D:Type} [Inhabited D] {w:World} {g T k:Nat} {f:D → Nat → Value} {ds ds':List D} {rest:List Value}
def encK (k:Nat) (f:D → Nat → Value) (d:D):List Value:=(List.range k).map (f d)
omit [Inhabited D] in
theorem encK_len (d:D):(encK k f d).length = k:=by simp [encK]
theorem flatK_list (ds:List D):(flatK (encK k f) k ds.toArray).toList = cellsOf k f ds:=by
 apply List.ext_getElem?
 intro t
 by_cases h:t < ds.length * k
 ·have hk:0 < k:=by
   rcases Nat.eq_zero_or_pos k with h0 | h0
   ·subst h0;simp at h
   ·exact h0
  have h1:t / k < ds.length:=(Nat.div_lt_iff_lt_mul hk).2 h
  have h2:t % k < k:=Nat.mod_lt _ hk
  have h3:=cellsOf_get k f ds (t / k) (t % k) h1 h2
  rw [Nat.div_add_mod' t k] at h3
  rw [h3,Array.getElem?_toList]
  have hs:t < (flatK (encK k f) k ds.toArray).size:=by simpa using h
  have h4:=get_flatK (encK k f) k ds.toArray t (by simpa using h)
  rw [getElem!_pos _ t hs] at h4
  rw [Array.getElem?_eq_getElem hs,h4]
  rw [getElem!_pos ds.toArray (t / k) (by simpa using h1),getElem!_pos _ (t % k) (by rw [encK_len];exact h2)]
  simp [encK]
 ·rw [List.getElem?_eq_none (by simp;omega),List.getElem?_eq_none (by rw [cellsOf_len];omega)]
theorem holdsK_of_blk (h:KBlk w g T k f ds rest):HoldsK (encK k f) k w g 0 ds.toArray:=by
 intro j hj
 have hj':j < (cellsOf k f ds).length:=by rw [cellsOf_len];simpa using hj
 refine ⟨?_,by rw [Nat.zero_add];exact h.frozen j⟩
 unfold KBlk at h
 have e:=flatK_list (k:=k) (f:=f) ds
 have h1:(flatK (encK k f) k ds.toArray)[j]! = (cellsOf k f ds)[j]:=by
  rw [getElem!_pos _ j hj,← Array.getElem_toList]
  exact List.getElem_of_eq e _
 rw [h1]
 simp only [World.cell?,h,Nat.zero_add]
 simp only [Option.isSome_none,Bool.false_eq_true,if_false,List.getElem?_toArray]
 rw [List.getElem?_append_left hj',List.getElem?_eq_getElem hj']
 rfl
theorem kblk_sortWorldK (h:KBlk w g T k f ds rest) (hl:ds'.length = ds.length) (n:Nat) (os:Array Obj):KBlk (sortWorldK (encK k f) k w g 0 n ds'.toArray os) g T k f ds' rest:=by
 have hlt:=h.lt
 unfold KBlk at h ⊢
 unfold sortWorldK
 rw [heap_grow_old _ _ (by unfold putRowK;simpa [putRow,mapBlock] using hlt)]
 have e:(putRowK (encK k f) k (Sort.ahead w n) g 0 ds'.toArray).heap[g]? = some (.cells (putCells id 0 (flatK (encK k f) k ds'.toArray) (cellsOf k f ds ++ rest).toArray) T (0,0)):=by
  unfold putRowK
  simp [putRow,mapBlock,Array.getElem?_modify,h,onCells]
 rw [e]
 congr 2
 apply Array.ext_getElem?
 intro j
 have l1:(cellsOf k f ds).length = ds.length * k:=cellsOf_len _ _ _
 have l2:(cellsOf k f ds').length = ds'.length * k:=cellsOf_len _ _ _
 rw [hl] at l2
 have e:=flatK_list (k:=k) (f:=f) ds'
 have hsz:(flatK (encK k f) k ds'.toArray).size = ds.length * k:=by simp [hl]
 unfold putCells
 rw [Array.getElem?_mapIdx,List.getElem?_toArray,List.getElem?_toArray]
 by_cases c:j < ds.length * k
 ·rw [List.getElem?_append_left (by rw [l1];exact c),List.getElem?_append_left (by rw [l2];exact c),List.getElem?_eq_getElem (by rw [l1];exact c),List.getElem?_eq_getElem (by rw [l2];exact c)]
  simp only [Option.map_some,Nat.zero_le,Nat.zero_add,Nat.sub_zero,true_and,hsz,if_pos c,id]
  congr 1
  rw [getElem!_pos _ j (by rw [hsz];exact c),← Array.getElem_toList]
  exact List.getElem_of_eq e _
 ·rw [List.getElem?_append_right (by rw [l1];omega),List.getElem?_append_right (by rw [l2];omega),l1,l2]
  simp only [Nat.zero_le,Nat.zero_add,true_and,hsz,if_neg c,Option.map_id']
theorem grown_sortWorldK (enc:D → List Value) (k n:Nat) (d:Array D) (os:Array Obj):w.grownBy (sortWorldK enc k w g 0 n d os) (some g):=by
 unfold sortWorldK putRowK
 refine ⟨rfl,rfl,rfl,by simp [putRow,mapBlock],fun i hi hne => ?_⟩
 rw [heap_grow_old _ _ (by simpa [putRow,mapBlock] using hi)]
 have:g ≠ i:=fun e => hne (by rw [e])
 simp [putRow,mapBlock,Array.getElem?_modify,this]
theorem permIn_list {d d':Array D} (h:PermIn 0 d.size d d'):d'.toList.Perm d.toList:=by
 have h3:=h.2.2
 have e1:d'.extract 0 d.size = d':=by rw [← h.1];simp
 have e2:d.extract 0 d.size = d:=by simp
 rw [e1,e2] at h3
 exact h3
theorem sortedIn_list {lt:D → D → Bool} {d:Array D} (h:SortedIn lt 0 d.size d):d.toList.Pairwise fun a b => lt b a = false:=by
 rw [List.pairwise_iff_getElem]
 intro i j hi hj hij
 have:=h i j (Nat.zero_le _) hij (by simpa using hj)
 rw [getElem!_pos d j (by simpa using hj),getElem!_pos d i (by simpa using hi)] at this
 simpa using this
end
open Go.RowKit
theorem infoEv:(Tryz.prog.info? 42).map (fun i => (i.zero,i.size,i.bytes)) = some (some (.agg #[.string ⟨#[]⟩,.string ⟨#[]⟩,.int .i64 0,.int .i64 0,.string ⟨#[]⟩,.slice none 0 0]),6,88):=by kernel_rfl
section
variable {D:Type}
set_option maxHeartbeats 1000000 in
set_option maxRecDepth 100000 in
theorem clone_Ev (H:Frz) (f:D → Nat → Value) (ds:List D) (hf:∀ d ∈ ds,∀ m,(f d m).oneCell' = true) (A:Option Addr) (cap:Nat) (w:World) (hH:H.In w) (hR:Rw H A 6 f ds) (hl:ds.length ≤ 1000000) :
  Calls Tryz.prog 72 #[.slice A ds.length cap] w fun e w' => (∃ v,e = .returned v ∧ Orow w' w.heap.size 42 6 f v ds) ∧ Below w.heap.size w w':=by
 obtain ⟨i0,hi0,hz0,hz1,hz2⟩:=info_parts infoEv
 cases A with
 | none =>
  have hd:ds = []:=by
   cases ds with
   | nil => rfl
   | cons d ds => obtain ⟨b,off,e,_⟩:=hR 0 (by simp);cases e
  subst hd
  have hn:=fun wx => Lib.run_eql_slice_nil (P:=Tryz.prog) wx 26 42 none 0 cap 0 0 Tryz.underlying26
  clear hR hH hf
  go_enter Tryz.func72,Tryz.ntmps72
  go_wp2_with fail
  go_ret
  exact ⟨⟨_,rfl,Orow.nil _ _ _ _ _⟩,Below.refl _ _⟩
 | some ad =>
  have hnews:Hid (∀ j u,(cellsOf 6 f ds)[j]? = some u → w.cell? (ad.add j) = some u):=by
   intro j u hu
   have hj:j < ds.length * 6:=by have:=(List.getElem?_eq_some_iff.1 hu).1;rwa [cellsOf_len] at this
   obtain ⟨b,off,e,_,hc⟩:=hR.at_ hH (i:=j / 6) (by omega) (by omega)
   injection e with e
   subst e
   have h2:=hc (j % 6) (Nat.mod_lt _ (by omega))
   have h3:=cellsOf_get 6 f ds (j / 6) (j % 6) (by omega) (Nat.mod_lt _ (by omega))
   have e1:j / 6 * 6 + j % 6 = j:=by omega
   rw [e1,hu] at h3
   rw [Addr.add_lit,show off + j = off + j / 6 * 6 + j % 6 from by omega,h2]
   exact h3.symm
  have hone:Hid (∀ u ∈ cellsOf 6 f ds,u.oneCell' = true):=by
   intro u hu
   simp only [cellsOf,List.mem_flatMap,List.mem_map] at hu
   obtain ⟨d,hd,m,_,rfl⟩:=hu
   exact hf d hd m
  have hlen:=Lib.hid (cellsOf_len 6 f ds)
  have hn:=fun wx => Lib.run_eql_slice_nil (P:=Tryz.prog) wx 26 42 (some ad) ds.length cap 0 0 Tryz.underlying26
  have hown:Hid ((w.alloc (.cells #[] 42)).ownsRow w.heap.size 42 6 (.slice (some ⟨w.heap.size,0,none⟩) 0 0) 0 []):=⟨rfl,Or.inr ⟨w.heap.size,0,#[],rfl,Nat.le_refl _,heap_at rfl,Nat.le_refl _,Nat.zero_le _,rfl,rfl⟩⟩
  have hnews2:Hid (∀ j u,(cellsOf 6 f ds)[j]? = some u → (w.alloc (.cells #[] 42)).cell? (ad.add j) = some u):=fun j u hu => by
   have:=hnews.out j u hu
   exact (World.cell?_alloc_lt w _ _ (World.block_lt_of_cell? w _ this)).trans this
  clear hR hH hf hnews
  go_enter Tryz.func72,Tryz.ntmps72
  go_wp2_with (at_builtin;refine wpList_append_own _ rfl _ _ 26 rfl w.heap.size 42 i0 (.agg #[.string ⟨#[]⟩,.string ⟨#[]⟩,.int .i64 0,.int .i64 0,.string ⟨#[]⟩,.slice none 0 0]) 6 88 Tryz.underlying26 hi0 hz0 hz1 hz2 rfl (by decide) (.slice (some ⟨w.heap.size,0,none⟩) 0 0) 0 [] rfl hown.out ad ds.length cap (cellsOf 6 f ds) rfl hlen.out hnews2.out hone.out (by simp only [maxLen];omega) (by omega) (by simp) ?_;intro v1 w2 o1 g1 b1)
  have O1:Hid (Orow w2 w.heap.size 42 6 f v1 ds):=by
   show World.ownsRow _ _ _ _ _ _ _
   simpa using o1
  have B1:Hid (Below w.heap.size w w2):=((Below.refl _ w).alloc (Nat.le_refl _) _).grown g1 (by simp) (fun q hq => by simp [Value.ownBlock] at hq;omega)
  clear o1 g1 b1
  go_wp2_with fail
  go_ret
  exact ⟨⟨_,rfl,O1.out⟩,B1.out⟩
end
open Go.RowKit
theorem fEv_one (d:EvD) (m:Nat):(fEv d m).oneCell' = true:=by
 match m with
 | 0 => rfl
 | 1 => rfl
 | 2 => rfl
 | 3 => rfl
 | 4 => rfl
 | m + 5 => rfl
theorem ltOf_evCf (a b:EvD):ltOf evCf a b = evLt a b:=by
 unfold ltOf evCf
 by_cases h:evLt a b = true
 ·rw [if_pos h,h];rfl
 ·rw [if_neg h]
  rw [Bool.not_eq_true] at h
  rw [h];rfl
theorem swo_ev:Sort.SWO (ltOf evCf):=by
 refine ⟨fun x => ?_,fun x y z h1 h2 => ?_,fun x y z h1 h2 => ?_⟩
 ·rw [ltOf_evCf];exact evLt_irrefl x
 ·rw [ltOf_evCf] at *;exact evLt_trans h1 h2
 ·rw [ltOf_evCf] at *
  unfold evLt at *
  simp only [Bool.or_eq_false_iff,Bool.and_eq_false_iff,decide_eq_false_iff_not] at *
  obtain ⟨a1,a2⟩:=h1
  obtain ⟨b1,b2⟩:=h2
  refine ⟨by omega,?_⟩
  by_cases e:x.at_ = z.at_
  ·right
   have c1:¬ cmpS x.id y.id < 0:=a2.resolve_left (fun c => c (by omega))
   have c2:¬ cmpS y.id z.id < 0:=b2.resolve_left (fun c => c (by omega))
   have s1:=cmpS_ok.swap x.id y.id
   have s2:=cmpS_ok.swap y.id z.id
   have s3:=cmpS_ok.swap x.id z.id
   have:=cmpS_ok.trans z.id y.id x.id (by omega) (by omega)
   omega
  ·left;exact e
theorem sortFunc_Ev (cf:EvD → EvD → Int) (hc:Sort.SWO (ltOf cf)) (g:Nat) (cb:Array Value) (hcall:∀ args w,(callFunc g args).run Tryz.prog w = .ok (.enter g args) w)
  (hcmp:∀ (W:World) (a b:EvD),Calls Tryz.prog g (#[.agg #[.string a.id,.string a.name,.int .i64 a.at_,.int .i64 a.kind,.string a.text,.slice a.fa a.fields.length a.fc],.agg #[.string b.id,.string b.name,.int .i64 b.at_,.int .i64 b.kind,.string b.text,.slice b.fa b.fields.length b.fc]] ++ cb) W fun e W' => e = .returned (.int .i64 (cf a b)) ∧ Gro W W')
  (B:Nat) (v:Value) (ds:List EvD) (w:World) (hO:Orow w B 42 6 fEv v ds) (hl:ds.length ≤ 1000000) :
  Calls Tryz.prog 91 #[v,.func (.func g) #[] cb] w fun e w' =>
   e = .returned (.tuple #[]) ∧ ∃ ds':List EvD,ds'.Perm ds ∧ (ds'.Pairwise fun a b => 0 ≤ cf b a) ∧ Orow w' B 42 6 fEv v ds' ∧ w.grownBy w' v.ownBlock:=by
 by_cases hne:ds = []
 ·subst hne
  obtain ⟨A,cap,hv,-⟩:=hO.slice
  subst hv
  refine (AnyF.slices_SortFunc_none Tryz.sortEv A cap (.func (.func g) #[] cb) w).mono ?_
  rintro e w' ⟨rfl,rfl⟩
  exact ⟨rfl,[],List.Perm.refl _,List.Pairwise.nil,hO,⟨rfl,rfl,rfl,Nat.le_refl _,fun k hk _ => rfl⟩⟩
 ·obtain ⟨q,cap,rest,hv,hle,hB,hq,hm,hk,hr⟩:=hO.form hne
  subst hv
  refine (AnyQ.slices_SortFunc Tryz.sortEv 6 (fun w => by kernel_rfl) (fun w => by kernel_rfl) (encK 6 fEv) (fun x => encK_len x) ?_ cf hc g cb q 0 cap ds.toArray w hcall ?_ (holdsK_of_blk hk) hq (by simp;omega)).mono ?_
  ·intro x u hu
   unfold encK at hu
   obtain ⟨m,hm,rfl⟩:=List.mem_map.1 hu
   exact fEv_one x m
  ·intro m os dk hs x y
   exact hcmp _ x y
  ·rintro e w' ⟨rfl,d',n,os,hp,hs,rfl⟩
   have hp2:=permIn_list hp
   have hs2:=sortedIn_list (d:=d') (by rw [hp.1];exact hs)
   have hl2:d'.toList.length = ds.length:=by simpa using hp2.length_eq
   refine ⟨rfl,d'.toList,by simpa using hp2,hs2.imp (fun {a b} h => ?_),?_,grown_sortWorldK _ _ _ _ _⟩
   ·unfold ltOf at h
    rw [decide_eq_false_iff_not] at h
    omega
   ·have:=kblk_sortWorldK (ds':=d'.toList) hk hl2 n os
    have h2:=Orow.of_blk this hB hm (by rw [hl2];exact hle) (by rw [hl2];exact hr)
    rw [hl2] at h2
    simpa using h2
theorem sorted_lt {es:List EvD} (h:es.Pairwise fun a b => 0 ≤ evCf b a) (ho:es.Pairwise fun a b => a.id ≠ b.id):es.Pairwise fun a b => evLt a b = true:=by
 refine (h.and ho).imp fun {a b} ⟨h1,h2⟩ => ?_
 by_cases c:evLt b a = true
 ·exfalso
  unfold evCf at h1
  rw [if_pos c] at h1
  omega
 ·rw [Bool.not_eq_true] at c
  unfold evLt at c ⊢
  simp only [Bool.or_eq_false_iff,Bool.and_eq_false_iff,decide_eq_false_iff_not,Bool.or_eq_true,Bool.and_eq_true,decide_eq_true_eq] at *
  by_cases e:a.at_ = b.at_
  ·right
   refine ⟨e,?_⟩
   have:=c.2.resolve_left (fun q => q (by omega))
   have s:=cmpS_ok.swap a.id b.id
   by_cases z:cmpS a.id b.id = 0
   ·exact absurd (cmpS_zero z) h2
   ·omega
  ·left;omega
def SrtPost (w:World) (es:List EvD) (e:Ending) (w':World):Prop:=∃ v es',e = .returned v ∧ es'.Perm es ∧ (es'.Pairwise fun a b => 0 ≤ evCf b a) ∧ Orow w' w.heap.size 42 6 fEv v es' ∧ Below w.heap.size w w'
set_option maxHeartbeats 2000000 in
set_option maxRecDepth 100000 in
theorem sorted_any (H:Frz) (A:Option Addr) (cap:Nat) (es:List EvD) (w:World) (hH:H.In w) (hR:Rw H A 6 fEv es) (hl:es.length ≤ 1000000) :
  Calls Tryz.prog 40 #[.slice A es.length cap] w (SrtPost w es):=by
 have HC:=Lib.hid (clone_Ev H fEv es (fun d _ m => fEv_one d m) A cap w hH hR hl)
 clear hH hR
 go_enter Tryz.func40,Tryz.ntmps40
 go_wp2_with fail
 refine HC.out.mono ?_
 rintro e w1 ⟨⟨v,rfl,hO⟩,hb⟩
 have HS:=Lib.hid (sortFunc_Ev evCf swo_ev 92 #[] (fun args w => by kernel_rfl) (fun W a b => sorted1_any a b W) w.heap.size v es w1 hO hl)
 have HB:=Lib.hid hb
 have hvs:=hO.slice
 have HO:=Lib.hid hO
 clear HC hb hO
 obtain ⟨A9,c9,rfl,-⟩:=hvs
 go_wp2_with fail
 refine HS.out.mono ?_
 rintro e w2 ⟨rfl,es',hp,hs,hO2,hg⟩
 have HF:Hid (SrtPost w es (.returned (.slice A9 es.length c9)) w2):=⟨_,es',rfl,hp,hs,hO2,HB.out.grown hg HB.out.size (fun q hq => (HO.out.lt hq).1)⟩
 clear HS hp hs hO2 hg HO HB
 go_wp2_with fail
 go_ret
 exact HF.out
open Go.RowKit
def REvPost (w:World) (bs K m:Nat) (H:Frz) (W:World) (e:Ending) (W':World):Prop:=∃ (A:Option Addr) (cap:Nat) (es:List EvD) (H':Frz),e = .returned (.slice A es.length cap) ∧ H.Le H' ∧ (∀ b,b < W.heap.size → H' b = H b) ∧ Lw w bs (K + 5000 * m + 10) H' W' ∧ Rw H' A 6 fEv es ∧ (∀ d ∈ es,EvIn H' d) ∧ RightEs es ∧ es.length ≤ m ∧ es.length ≤ cap ∧ ∀ d ∈ es,d.at_ ≤ 100000
theorem right_es {es es1 es2:List EvD} (h:Own3 es) (hs:es1.Sublist es) (hk:∀ d ∈ es1,KeptE d) (hp:es2.Perm es1) (ho:es2.Pairwise fun a b => 0 ≤ evCf b a):RightEs es2 ∧ ∀ d ∈ es2,d.at_ ≤ 100000:=by
 have h1:Own3 es1:=List.Pairwise.sublist hs h
 have h2:=own3_perm h1 hp
 have hk2:∀ d ∈ es2,KeptE d:=fun d hd => hk d (hp.mem_iff.1 hd)
 have own:es2.Pairwise fun a b => a.id ≠ b.id:=by
  unfold Own3 at h2
  rw [List.pairwise_iff_getElem] at h2 ⊢
  intro i j hi hj hij
  exact h2 i j hi hj hij (hk2 _ (List.getElem_mem hi)).2.1 (hk2 _ (List.getElem_mem hj)).2.1
 exact ⟨⟨fun d hd => (hk2 d hd).1,sorted_lt ho own,own⟩,fun d hd => (hk2 d hd).2.2⟩
set_option maxHeartbeats 8000000 in
set_option maxRecDepth 100000 in
theorem Lw.rightEvents {w W:World} {bs K:Nat} {H:Frz} (h:Lw w bs K H W) (hK:K ≤ 200000) (hP:PoolIn H) (hN:NamesIn H) (hE:ENamesIn H) (hU:UtfIn H) (hM:MLen H) (m:Nat) (hm:m ≤ 14) :
  Calls Tryz.prog 8 #[.pointer (some ⟨bs,0,none⟩),.int .i64 m] W (REvPost w bs K m H W):=by
 have HEV:=Lib.hid (h.events hK hP hN hE m hm)
 have HU:=Lib.hid hU
 have HM:=Lib.hid hM
 clear h hP hN hE hU hM
 go_enter Tryz.func8,Tryz.ntmps8
 go_wp2_with fail
 refine HEV.out.mono ?_
 rintro e W1 ⟨v,es,H1,rfl,le1,old1,C,hinn,hel,hown⟩
 have HC:=Lib.hid C
 have HLE:=Lib.hid le1
 have HOLD:=Lib.hid old1
 have HOW:=Lib.hid hown
 have HINN:=Lib.hid hinn
 have HEL:=Lib.hid hel
 have HDE:=Lib.hid (deleteR_Ev H1 43 [] KeptE es (fun W d hd hW => keep_any H1 (HU.out.le le1) (HM.out.le le1) d W hW (hinn d hd)) (fun a W => by kernel_rfl) W.heap.size v W1 C.lw.fin C.1.row C.1.2.2.1 (by omega))
 clear le1 old1 hown hinn hel C HEV
 go_wp2_with fail
 refine HDE.out.mono ?_
 rintro e W2 ⟨v2,es1,rfl,hsub,hk,hO,hob,hg⟩
 have C2:=HC.out.app hO hg (Or.inl hob)
 have HSZ:Hid (W.heap.size ≤ W2.heap.size):=C2.2.size
 obtain ⟨A2,c2,H2,rfl,hc2,le2,L2,R2,old2⟩:=C2.1.frozen2
 have HSUB:=Lib.hid hsub
 have HK:=Lib.hid hk
 have HL2:=Lib.hid L2
 have HLE2:=Lib.hid (HLE.out.trans le2)
 have HOLD2:Hid (∀ b,b < W.heap.size → H2 b = H b):=fun b hb => (old2 b hb).trans (HOLD.out b hb)
 have HINN2:Hid (∀ d ∈ es1,EvIn H2 d):=fun d hd => (HINN.out d (hsub.subset hd)).le le2
 have hel1:es1.length ≤ m:=by have:=hsub.length_le;have:=HEL.out;omega
 have HSO:=Lib.hid (sorted_any H2 A2 c2 es1 W2 L2.fin R2 (by omega))
 clear hsub hk hO hob hg C2 le2 L2 R2 old2 HDE HC HLE HOLD HINN
 go_wp2_with fail
 refine HSO.out.mono ?_
 rintro e W3 ⟨v3,es2,rfl,hp,hs,hO3,hb3⟩
 obtain ⟨hr,hat⟩:=right_es HOW.out HSUB.out HK.out hp hs
 obtain ⟨A3,c3,H3,rfl,hc3,p1,p2,R3,p3,-⟩:=hO3.freeze H2
 have L3:=HL2.out.call hb3
 have le3:=p2 (fun g hg => HL2.out.fin.none_ (hO3.lt hg).1)
 have HF:Hid (REvPost w bs K m H W (.returned (.slice A3 es2.length c3)) W3) :=
  ⟨A3,c3,es2,H3,rfl,HLE2.out.trans le3,fun b hb => (p3 b (Nat.lt_of_lt_of_le hb HSZ.out)).trans (HOLD2.out b hb),⟨L3.st,L3.bel,L3.le,p1 L3.fin,(p3 _ HL2.out.lt).trans L3.apart⟩,R3,fun d hd => (HINN2.out d (hp.mem_iff.1 hd)).le le3,hr,by rw [hp.length_eq];exact hel1,hc3,hat⟩
 clear hp hs hO3 hb3 hr hat p1 p2 R3 p3 L3 le3 hc3
 go_wp2_with fail
 go_ret
 exact HF.out
end Go.Proofs.YtfmnlpmgakgleaaGreatDoor
