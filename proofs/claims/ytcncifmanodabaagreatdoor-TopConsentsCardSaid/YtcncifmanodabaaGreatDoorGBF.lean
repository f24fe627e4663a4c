/- Texts of this claim, put together: Dist, NormP, BytesW, NormA, NormW, Runes, RefValP, RefPts, RefKey. -/
import Derived.Test.YtcncifmanodabaaGreatDoorGAU
import Derived.StillTailTactics
import Derived.Deep.Cut
import Derived.Test.YtcncifmanodabaaGreatDoorGAD
import Derived.Lib.IndexBytes
import Derived.Lib.TrimByte
import Derived.Test.YtcncifmanodabaaGreatDoorGAB
import Derived.Laws.IdiomStrings
import Derived.Test.YtcncifmanodabaaGreatDoorGAK
import Derived.Lib.Bytes2
import Derived.Laws.ResultCell
import Derived.Test.YtcncifmanodabaaGreatDoorShelfU
import Derived.Test.YtcncifmanodabaaGreatDoorGBE
import Derived.Test.YtcncifmanodabaaGreatDoorGAT
import Derived.Test.YtcncifmanodabaaGreatDoorGAN
import Derived.Lib.ValidLaws
import Derived.Lib.TrimUEq
import Derived.Test.YtcncifmanodabaaGreatDoorGAR
import Derived.Test.YtcncifmanodabaaGreatDoorGAC
import Derived.Test.YtcncifmanodabaaGreatDoorShelf
import Derived.Shelf.Strings.SlTrimAscii
namespace Go.Proofs.YtcncifmanodabaaGreatDoor
set_option linter.unusedVariables false
open Go.RowKit
def fR (z:Int) (_:Nat):Value:=.int .i32 z
open Go.RowKit
def lowB (c:UInt8):UInt8:=if capB c = true then c + 97 - 65 else c
def upB (c:UInt8):UInt8:=if smallB c = true then c + 65 - 97 else c
def mapS (f:UInt8 → UInt8) (s:ByteArray):ByteArray:=⟨(s.data.toList.map f).toArray⟩
def outS (bs:List UInt8) (s:ByteArray):ByteArray:=⟨(s.data.toList.filter fun c => decide (Lib.indexByte bs c < 0)).toArray⟩
def mailN (s:ByteArray):ByteArray :=
 if (Lib.cut s.data.toList [64]).2.2 = false then s else ⟨((Lib.cut (Lib.cut s.data.toList [64]).1 [43]).1 ++ [64] ++ (Lib.cut s.data.toList [64]).2.1).toArray⟩
def phoneBs:List UInt8:=[32,45,46,47,40,41]
def phoneN1 (s country:ByteArray):ByteArray :=
 if Lib.hasPrefix s.data.toList [48,48] = true then ⟨([43] ++ s.data.toList.drop 2).toArray⟩
 else if Lib.hasPrefix s.data.toList [48] = true then ⟨([43] ++ country.data.toList ++ s.data.toList.drop 1).toArray⟩
 else if Lib.hasPrefix s.data.toList [43] = false then ⟨([43] ++ country.data.toList ++ s.data.toList).toArray⟩ else s
def phoneN (s country:ByteArray):ByteArray:=phoneN1 (outS phoneBs s) country
def normS (kind:Int) (s country:ByteArray):ByteArray :=
 if kind = 1 then mailN (mapS lowB s) else if kind = 2 then phoneN s country else if kind = 3 then outS [32,45] (mapS upB s) else outS [45] (mapS lowB s)
theorem ba_ext {a b:ByteArray} (h:a.data.toList = b.data.toList):a = b:=by
 cases a with
 | mk x => cases b with
  | mk y => simp at h;simp [h]
theorem mapS_same {f:UInt8 → UInt8} {s:ByteArray} (h:∀ c ∈ s.data.toList,f c = c):mapS f s = s:=by
 apply ba_ext
 unfold mapS
 simp only
 conv => rhs;rw [← List.map_id s.data.toList]
 exact List.map_congr_left h
theorem outS_same {bs:List UInt8} {s:ByteArray} (h:∀ c ∈ s.data.toList,Lib.indexByte bs c < 0):outS bs s = s:=by
 apply ba_ext
 unfold outS
 simp only
 exact List.filter_eq_self.2 fun c hc => by simpa using h c hc
theorem cutOne_hit {s:List UInt8} {c:UInt8} {i:Nat} (h:Lib.indexByte s c = i):Lib.cut s [c] = (s.take i,s.drop (i + 1),true) ∧ s = s.take i ++ c :: s.drop (i + 1):=by
 have h1:=Lib.index_one s c
 obtain ⟨h2,_⟩:=Lib.indexByte_some h
 constructor
 ·unfold Lib.cut
  rw [h1,h,if_pos (by omega)]
  simp
 ·obtain ⟨hi,e⟩:=List.getElem?_eq_some_iff.1 h2
  conv => lhs;rw [← List.take_append_drop i s,List.drop_eq_getElem_cons hi,e]
theorem cutOne_miss {s:List UInt8} {c:UInt8} (h:Lib.indexByte s c < 0):Lib.cut s [c] = (s,[],false):=by
 unfold Lib.cut
 rw [Lib.index_one,if_neg (by omega)]
theorem indexByte_not {s:List UInt8} {c:UInt8} (h:c ∉ s):Lib.indexByte s c < 0:=by
 apply Classical.byContradiction
 intro hn
 obtain ⟨i,hi⟩:∃ i:Nat,Lib.indexByte s c = i:=⟨(Lib.indexByte s c).toNat,by omega⟩
 exact h (List.mem_of_getElem? (Lib.indexByte_some hi).1)
theorem splitK_bytes {p:UInt8 → Bool}:∀ (k:Nat) (s:List UInt8),(∀ l ∈ Lib.splitK [46] 0 k s,∀ c ∈ l,p c = true) → ∀ c ∈ s,p c = true ∨ c = 46
 | 0,s,h,c,hc => Or.inl (h s (by simp [Lib.splitK]) c hc)
 | k + 1,s,h,c,hc => by
  unfold Lib.splitK at h
  by_cases e:(Lib.index s [46] == -1) = true
  ·rw [if_pos e] at h
   exact Or.inl (h s (by simp) c hc)
  ·rw [if_neg e] at h
   have h1:=Lib.index_one s 46
   have h2:=Lib.index_ge s [46]
   have h3:Lib.index s [46] ≠ -1:=by simpa using e
   obtain ⟨i,hi⟩:∃ i:Nat,Lib.indexByte s 46 = i:=⟨(Lib.indexByte s 46).toNat,by omega⟩
   obtain ⟨_,hs⟩:=cutOne_hit hi
   rw [h1,hi] at h
   simp only [Int.toNat_natCast,Nat.add_zero,List.length_singleton,List.mem_cons,forall_eq_or_imp] at h
   rw [hs] at hc
   rcases List.mem_append.1 hc with hc | hc
   ·exact Or.inl (h.1 c hc)
   ·rcases List.mem_cons.1 hc with hc | hc
    ·exact Or.inr hc
    ·exact splitK_bytes k _ h.2 c hc
theorem allB_mem {p:UInt8 → Bool} {s:ByteArray} (h:allB p s = true):∀ c ∈ s.data.toList,p c = true:=by
 unfold allB at h
 exact List.all_eq_true.1 h
theorem mail_bytes {s:ByteArray} (h:mailF s = true):∃ a b:List UInt8,Lib.cut s.data.toList [64] = (a,b,true) ∧ s.data.toList = a ++ 64 :: b ∧ (∀ c ∈ a,mailC c = true) ∧ (∀ c ∈ b,labC c = true ∨ c = 46) ∧ s.size ≤ 80:=by
 unfold mailF at h
 split at h
 ·cases h
 rename_i h1
 split at h
 ·cases h
 rename_i h2
 split at h
 ·cases h
 split at h
 ·cases h
 split at h
 ·cases h
 split at h
 ·cases h
 split at h
 ·cases h
 rename_i h3
 split at h
 ·cases h
 rename_i h4
 have hn:¬ Lib.indexByte s.data.toList 64 < 0:=by
  intro c
  rw [cutOne_miss c] at h1
  exact h1 rfl
 obtain ⟨i,hi⟩:∃ i:Nat,Lib.indexByte s.data.toList 64 = i:=⟨(Lib.indexByte s.data.toList 64).toNat,by omega⟩
 obtain ⟨e1,e2⟩:=cutOne_hit hi
 refine ⟨_,_,e1,e2,?_,?_,by omega⟩
 ·have h5:allB mailC (localF s) = true:=by simpa using h3
  have:=allB_mem h5
  unfold localF at this
  rw [e1] at this
  simpa using this
 ·have h5:(labelsF (domainF s)).all labelF = true:=by simpa using h4
  have h6:∀ l ∈ (labelsF (domainF s)).map (·.data.toList),∀ c ∈ l,labC c = true:=by
   intro l hl c hc
   obtain ⟨x,hx,rfl⟩:=List.mem_map.1 hl
   have:=List.all_eq_true.1 h5 x hx
   unfold labelF at this
   split at this
   ·cases this
   split at this
   ·cases this
   split at this
   ·cases this
   exact allB_mem this c hc
  unfold labelsF at h6
  rw [Lib.splitB_data] at h6
  have h7:=splitK_bytes _ _ h6
  unfold domainF at h7
  rw [e1] at h7
  simpa using h7
theorem low_mail:∀ n:Fin 256,mailC (UInt8.ofNat n.1) = true ∨ labC (UInt8.ofNat n.1) = true ∨ UInt8.ofNat n.1 = 46 ∨ UInt8.ofNat n.1 = 64 ∨ devC (UInt8.ofNat n.1) = true → lowB (UInt8.ofNat n.1) = UInt8.ofNat n.1 ∧ UInt8.ofNat n.1 ≠ 32 ∧ UInt8.ofNat n.1 ≠ 43:=by decide +kernel
theorem u8_of (c:UInt8):∃ n:Fin 256,c = UInt8.ofNat n.1:=⟨⟨c.toNat,c.toNat_lt⟩,by simp⟩
theorem low_ok {c:UInt8} (h:mailC c = true ∨ labC c = true ∨ c = 46 ∨ c = 64 ∨ devC c = true):lowB c = c ∧ c ≠ 32 ∧ c ≠ 43:=by
 obtain ⟨n,rfl⟩:=u8_of c
 exact low_mail n h
theorem dig_all:∀ n:Fin 256,digitB (UInt8.ofNat n.1) = true ∨ UInt8.ofNat n.1 = 43 → Lib.indexByte phoneBs (UInt8.ofNat n.1) < 0 ∧ UInt8.ofNat n.1 ≠ 32:=by decide +kernel
theorem dig_ok {c:UInt8} (h:digitB c = true ∨ c = 43):Lib.indexByte phoneBs c < 0 ∧ c ≠ 32:=by
 obtain ⟨n,rfl⟩:=u8_of c
 exact dig_all n h
theorem mem_all:∀ n:Fin 256,memC (UInt8.ofNat n.1) = true → upB (UInt8.ofNat n.1) = UInt8.ofNat n.1 ∧ Lib.indexByte [32,45] (UInt8.ofNat n.1) < 0 ∧ UInt8.ofNat n.1 ≠ 32:=by decide +kernel
theorem mem_ok {c:UInt8} (h:memC c = true):upB c = c ∧ Lib.indexByte [32,45] c < 0 ∧ c ≠ 32:=by
 obtain ⟨n,rfl⟩:=u8_of c
 exact mem_all n h
theorem dev_all:∀ n:Fin 256,devC (UInt8.ofNat n.1) = true → Lib.indexByte [45] (UInt8.ofNat n.1) < 0:=by decide +kernel
theorem dev_ok {c:UInt8} (h:devC c = true):Lib.indexByte [45] c < 0:=by
 obtain ⟨n,rfl⟩:=u8_of c
 exact dev_all n h
theorem norm_same {kind:Int} {s:ByteArray} (h:idErr kind s = 0) (country:ByteArray):normS kind s country = s ∧ (∀ c ∈ s.data.toList,c ≠ 32) ∧ s.size ≤ 80 ∧ (1 ≤ kind ∧ kind ≤ 4):=by
 unfold idErr at h
 unfold normS
 split at h
 ·next hk =>
  rw [if_pos hk]
  split at h
  ·next hm =>
   obtain ⟨a,b,e1,e2,ha,hb,hl⟩:=mail_bytes hm
   have hall:∀ c ∈ s.data.toList,lowB c = c ∧ c ≠ 32 ∧ True:=by
    intro c hc
    rw [e2] at hc
    rcases List.mem_append.1 hc with hc | hc
    ·have:=low_ok (Or.inl (ha c hc));exact ⟨this.1,this.2.1,trivial⟩
    ·rcases List.mem_cons.1 hc with hc | hc
     ·have:=low_ok (c:=c) (Or.inr (Or.inr (Or.inr (Or.inl hc))));exact ⟨this.1,this.2.1,trivial⟩
     ·rcases hb c hc with d | d
      ·have:=low_ok (Or.inr (Or.inl d));exact ⟨this.1,this.2.1,trivial⟩
      ·have:=low_ok (c:=c) (Or.inr (Or.inr (Or.inl d)));exact ⟨this.1,this.2.1,trivial⟩
   refine ⟨?_,fun c hc => (hall c hc).2.1,hl,by omega⟩
   rw [mapS_same fun c hc => (hall c hc).1]
   unfold mailN
   rw [e1]
   simp only [Bool.true_eq_false,if_false]
   rw [cutOne_miss (indexByte_not fun hc => (low_ok (Or.inl (ha _ hc))).2.2 rfl)]
   apply ba_ext
   simp [e2]
  ·cases h
 ·next hk1 =>
  rw [if_neg hk1]
  split at h
  ·next hk =>
   rw [if_pos hk]
   split at h
   ·next hm =>
    unfold phoneF at hm
    split at hm
    ·cases hm
    rename_i h1
    split at hm
    ·cases hm
    rename_i h2
    split at hm
    ·cases hm
    rename_i h3
    have h4:Lib.hasPrefix s.data.toList [43] = true:=by simpa using h1
    obtain ⟨r,hr⟩:∃ r,s.data.toList = 43 :: r:=by
     unfold Lib.hasPrefix at h4
     cases hs:s.data.toList with
     | nil => rw [hs] at h4;cases h4
     | cons c r =>
      rw [hs] at h4
      simp [List.isPrefixOf] at h4
      exact ⟨r,by rw [← h4]⟩
    have h5:=allB_mem (show allB digitB (s.extract 1 s.size) = true by simpa using h3)
    rw [Lib.extract_from] at h5
    simp only at h5
    rw [hr] at h5
    have hall:∀ c ∈ s.data.toList,Lib.indexByte phoneBs c < 0 ∧ c ≠ 32:=by
     intro c hc
     rw [hr] at hc
     rcases List.mem_cons.1 hc with hc | hc
     ·exact dig_ok (Or.inr hc)
     ·exact dig_ok (Or.inl (h5 c (by simpa using hc)))
    refine ⟨?_,fun c hc => (hall c hc).2,by omega,by omega⟩
    unfold phoneN
    rw [outS_same fun c hc => (hall c hc).1]
    unfold phoneN1
    rw [hr]
    simp [Lib.hasPrefix,List.isPrefixOf]
   ·cases h
  ·next hk2 =>
   rw [if_neg hk2]
   split at h
   ·next hk =>
    rw [if_pos hk]
    split at h
    ·cases h
    ·next hm =>
     have hm2:memberF s = true:=by simpa using hm
     unfold memberF at hm2
     rw [Bool.and_eq_true,decide_eq_true_eq] at hm2
     have h5:=allB_mem hm2.2
     refine ⟨?_,fun c hc => (mem_ok (h5 c hc)).2.2,by omega,by omega⟩
     rw [mapS_same fun c hc => (mem_ok (h5 c hc)).1,outS_same fun c hc => (mem_ok (h5 c hc)).2.1]
   ·next hk3 =>
    rw [if_neg hk3]
    split at h
    ·next hk =>
     split at h
     ·next hm =>
      unfold deviceF at hm
      rw [Bool.and_eq_true,decide_eq_true_eq] at hm
      have h5:=allB_mem hm.2
      have h6:∀ c ∈ s.data.toList,lowB c = c ∧ c ≠ 32 ∧ c ≠ 43:=fun c hc => low_ok (Or.inr (Or.inr (Or.inr (Or.inr (h5 c hc)))))
      refine ⟨?_,fun c hc => (h6 c hc).2.1,by omega,by omega⟩
      rw [mapS_same fun c hc => (h6 c hc).1,outS_same fun c hc => dev_ok (h5 c hc)]
     ·cases h
    ·cases h
open Go.RowKit
theorem infoByte:(Tryz.prog.info? 5).map (fun i => (i.zero,i.size,i.bytes)) = some (some (.int .u8 0),1,1):=by kernel_rfl
def vb (c:UInt8):Value:=.int .u8 (c.toNat:Int)
def Bytes (w:World) (g:Nat) (l:List UInt8):Prop:=∀ j (h:j < l.length),w.cell? ⟨g,j,none⟩ = some (vb l[j])
theorem Bytes.set {w:World} {g:Nat} {l:List UInt8} (h:Bytes w g l) {i:Nat} (hi:i < l.length) (x:UInt8):Bytes (w.setCell ⟨g,i,none⟩ (vb x)) g (l.set i x):=by
 intro j hj
 rw [List.length_set] at hj
 by_cases e:i = j
 ·subst e
  rw [World.cell?_setCell_same w _ _ (h i hi)]
  simp
 ·rw [World.cell?_setCell_other w _ _ _ (fun c => e (by injection c)),h j hj,List.getElem_set_ne e]
theorem Bytes.conv {w:World} {g:Nat} {l:List UInt8} (h:Bytes w g l) (n cap:Nat) (hn:n = l.length) :
  (convert 137 9 (.slice (some ⟨g,0,none⟩) n cap)).run Tryz.prog w = .ok (.string ⟨l.toArray⟩) w:=by
 subst hn
 refine run_convert_bytes_back w _ _ 5 ⟨g,0,none⟩ cap l Tryz.underlying137 Tryz.underlying5 Tryz.underlying9 fun j hj => ?_
 rw [Addr.add_lit,Nat.zero_add]
 exact h j hj
open Go.RowKit
structure LB (w:World) (g:Nat) (l:List UInt8) (wr:World):Prop where
 bytes:Bytes wr g l
 froz:∀ j,j < l.length → wr.frozen? ⟨g,j,none⟩ = false
 bel:Below w.heap.size w wr
 ge:w.heap.size ≤ g
theorem LB.set {w wr:World} {g:Nat} {l:List UInt8} (h:LB w g l wr) {i:Nat} (hi:i < l.length) (x:UInt8):LB w g (l.set i x) (wr.setCell ⟨g,i,none⟩ (vb x)):=by
 refine ⟨h.bytes.set hi x,fun j hj => ?_,?_,h.ge⟩
 ·rw [List.length_set] at hj
  have:=h.froz j hj
  simp only [World.frozen?,World.setCell,Array.getElem?_modify] at this ⊢
  simp only [if_true]
  generalize wr.heap[g]? = oo at this ⊢
  cases oo with
  | none => exact this
  | some o =>
   cases o with
   | cells cs T p => obtain ⟨lo,hi'⟩:=p;exact this
   | _ => exact this
 ·exact ⟨h.bel.os,h.bel.tape,h.bel.output,Nat.le_trans h.bel.size (by simp [World.setCell]),fun q hq => (Below.heap_setCell wr ⟨g,i,none⟩ _ q (by have:=h.ge;show q ≠ g;omega)).trans (h.bel.block q hq)⟩
open Go.RowKit
theorem ba_drop (s:ByteArray) (k:Nat):s.extract k s.size = ⟨(s.data.toList.drop k).toArray⟩:=ba_ext (by
 rw [ByteArray.data_extract,Array.toList_extract]
 simp only [List.extract]
 exact List.take_of_length_le (by simp))
open Go.RowKit
theorem empty_size {t:ByteArray}:t.toList.isEmpty = true ↔ t.size = 0:=by
 rw [size0V,List.isEmpty_iff]
theorem rune_head {c:ByteArray} (h:0 < c.size):c.data.toList.headD 0 = c[0]:=by
 cases c with
 | mk d =>
  cases d with
  | mk l =>
   cases l with
   | nil => exact absurd h (Nat.lt_irrefl 0)
   | cons x l => rfl
abbrev RuM:=IG (D:=Int) 21 1 fR
def strSize (v:Value):Nat:=match v with | .string t => t.size | _ => 0
open Go.RowKit
theorem decL_eq {s:ByteArray} (h:0 < s.size):Lib.decodeL s.data.toList = Lib.decodeGo s:=by
 unfold Lib.decodeL Lib.decodeGo
 rw [if_neg (by omega)]
theorem decN_bytes (n b0 b1 b2 b3:Nat) (h:¬ ((Lib.decodeN n b0 b1 b2 b3).1 = 65533 ∧ (Lib.decodeN n b0 b1 b2 b3).2 = 1)) :
  ((Lib.decodeN n b0 b1 b2 b3).2 = 1 ∧ (Lib.decodeN n b0 b1 b2 b3).1 = b0) ∨ ((Lib.decodeN n b0 b1 b2 b3).2 = 2 ∧ 128 ≤ b0 ∧ 128 ≤ b1) ∨ ((Lib.decodeN n b0 b1 b2 b3).2 = 3 ∧ 128 ≤ b0 ∧ 128 ≤ b1 ∧ 128 ≤ b2) ∨ ((Lib.decodeN n b0 b1 b2 b3).2 = 4 ∧ 128 ≤ b0 ∧ 128 ≤ b1 ∧ 128 ≤ b2 ∧ 128 ≤ b3):=by
 unfold Lib.decodeN at h ⊢
 repeat' split
 all_goals simp only at h ⊢
 all_goals first | omega | (simp_all;done) | (split at h <;> simp_all <;> omega)
theorem txt_all:∀ (n:Nat) (s:ByteArray),s.size ≤ n → (∀ p ∈ ptS s,32 ≤ p ∧ p ≠ 127) → Lib.validD s.data.toList = true ∧ ∀ c ∈ s.data.toList,txtC c = true
 | 0,s,hn,_ => by
  have hz:s.data.toList.length = s.size:=by simp
  have:s.data.toList = []:=List.eq_nil_of_length_eq_zero (by omega)
  rw [this]
  exact ⟨Lib.validD_nil,fun c hc => by cases hc⟩
 | n + 1,s,hn,h => by
  have hz:s.data.toList.length = s.size:=by simp
  rcases Nat.eq_zero_or_pos s.size with h0 | h0
  ·have:s.data.toList = []:=List.eq_nil_of_length_eq_zero (by omega)
   rw [this]
   exact ⟨Lib.validD_nil,fun c hc => by cases hc⟩
  rw [ptS_step h0] at h
  have hr:=h (runeOf s) (by simp)
  have hrs:=restOf_size h0
  obtain ⟨i1,i2⟩:=txt_all n (restOf s) (by omega) (fun p hp => h p (by simp [hp]))
  have hd:=dec_bound h0
  have herr:¬ ((Lib.decodeGo s).1 = 65533 ∧ (Lib.decodeGo s).2 = 1):=fun c => by
   unfold runeOf at hr
   rw [if_pos c] at hr
   omega
  have hrune:runeOf s = ((Lib.decodeGo s).1:Int):=by unfold runeOf;rw [if_neg herr]
  have hrest:(restOf s).data.toList = s.data.toList.drop (Lib.decodeGo s).2:=by
   unfold restOf
   rw [ba_drop]
  have hne:s.data.toList ≠ []:=fun c => by rw [c] at hz;simp at hz;omega
  constructor
  ·rw [Lib.validD_step _ hne,decL_eq h0,if_neg herr,← hrest]
   exact i1
  ·intro c hc
   rw [← List.take_append_drop (Lib.decodeGo s).2 s.data.toList,← hrest] at hc
   rcases List.mem_append.1 hc with hc | hc
   ·have hN:=Lib.decodeL_N s.data.toList
    rw [decL_eq h0] at hN
    rw [hN] at herr hrune hd hc
    have hb:=decN_bytes _ _ _ _ _ herr
    obtain ⟨j,hj,rfl⟩:=List.getElem_of_mem hc
    rw [List.length_take] at hj
    rw [List.getElem_take]
    have hgj:s.data.toList[j] = s.data.toList.getD j 0:=by rw [List.getD_eq_getElem?_getD,List.getElem?_eq_getElem (by omega)];rfl
    rw [hgj]
    unfold txtC
    rw [Bool.and_eq_true,decide_eq_true_iff,decide_eq_true_iff]
    rcases hb with ⟨e1,e2⟩ | ⟨e1,e2,e3⟩ | ⟨e1,e2,e3,e4⟩ | ⟨e1,e2,e3,e4,e5⟩
    ·rw [e1] at hj
     have:j = 0:=by omega
     subst this
     rw [hrune,e2] at hr
     omega
    ·rw [e1] at hj
     have:j = 0 ∨ j = 1:=by omega
     rcases this with rfl | rfl <;> omega
    ·rw [e1] at hj
     have:j = 0 ∨ j = 1 ∨ j = 2:=by omega
     rcases this with rfl | rfl | rfl <;> omega
    ·rw [e1] at hj
     have:j = 0 ∨ j = 1 ∨ j = 2 ∨ j = 3:=by omega
     rcases this with rfl | rfl | rfl | rfl <;> omega
   ·exact i2 c hc
theorem okT_of {s:ByteArray} (h:∀ p ∈ ptS s,32 ≤ p ∧ p ≠ 127):okT s = true:=by
 obtain ⟨h1,h2⟩:=txt_all s.size s (Nat.le_refl _) h
 unfold okT
 rw [h1]
 exact List.all_eq_true.2 h2
open Go.RowKit
theorem infoInt9:(Tryz.prog.info? 3).map (fun i => (i.zero,i.size,i.bytes)) = some (some (.int .i64 0),1,8):=by kernel_rfl
theorem byte_wrap64 (b:UInt8):wrap64 ((b.toNat:Nat):Int) = ((b.toNat:Nat):Int) ∧ wrap64 (-1 - ((b.toNat:Nat):Int)) = -1 - ((b.toNat:Nat):Int):=by
 have:=b.toNat_lt
 exact ⟨IntWalk.wrap64_in _ (by omega),IntWalk.wrap64_in _ (by omega)⟩
abbrev InM:=IG (D:=Int) 3 1 fI
set_option maxHeartbeats 4000000 in
set_option maxRecDepth 100000 in
theorem refPts_any (H:Frz) (hU:UtfIn H) (s:ByteArray) (w:World) (hH:H.In w) (hs:s.size ≤ 1000000) :
  Calls Tryz.prog 164 #[.string s] w fun e w' => ∃ v,e = .returned v ∧ InM H w.heap.size v (ptS s) w w':=by
 obtain ⟨i0,hi0,hz0,hz1,hz2⟩:=info_parts infoInt9
 have C0:Hid (InM H w.heap.size (.slice none 0 0) [] w w):=⟨hH,Orow.nil _ _ _ _ _,(fun g hg => by cases hg),Below.refl _ _,Nat.le_refl _,Nat.le_refl _⟩
 have HDE:=Lib.hid (fun t W (hW:H.In W) => Tryz.utf8_DecodeRuneInString t W (hU W hW))
 clear hH hU
 go_enter Tryz.func164,Tryz.ntmps164
 go_wp2_with fail
 go_loopw [0,3] (fun x v wr => ∃ (t:ByteArray) (ds:List Int),x = .string t ∧ Hid (InM H w.heap.size v ds w wr) ∧ Hid (ptS s = ds ++ ptS t) ∧ t.size ≤ s.size ∧ ds.length + t.size ≤ s.size) (fun x _ _ => strSize x)
 case atStart => exact ⟨s,[],rfl,C0,rfl,Nat.le_refl _,by simp⟩
 case round =>
  obtain ⟨t,ds,rfl,C,hpt,hts,hdl⟩:=hrel
  clear C0
  obtain ⟨A,cap,hv,hle⟩:=C.out.row.slice
  subst hv
  cases hem:t.toList.isEmpty with
  | true =>
   have h0:=empty_size.1 hem
   have HF:Hid (InM H w.heap.size (.slice A ds.length cap) (ptS s) w wr):=by
    have e:=hpt.out
    rw [ptS_nil h0,List.append_nil] at e
    show InM _ _ _ _ _ _
    rw [e]
    exact C.out
   go_wp2_with fail
   exact bodyPost_ret (by kernel_rfl) rfl ⟨_,rfl,HF.out⟩
  | false =>
   have h0:0 < t.size:=by
    apply Classical.byContradiction
    intro c
    have:=empty_size.2 (show t.size = 0 by omega)
    rw [hem] at this
    cases this
   have hdb:=dec_bound h0
   have HST:=Lib.hid (ptS_step h0)
   have HRZ:=Lib.hid (restOf_size h0)
   have hrb:=runeOf_bound h0
   have HRU:Hid (runeOf t = if (Lib.decodeGo t).1 = 65533 ∧ (Lib.decodeGo t).2 = 1 then -1 - ((t.data.toList.headD 0).toNat:Int) else ((Lib.decodeGo t).1:Int)):=rfl
   have HRE:Hid (restOf t = t.extract (Lib.decodeGo t).2 t.size):=rfl
   have HDT:=Lib.hid (HDE.out t wr C.out.inn)
   generalize (Lib.decodeGo t).1 = R at *
   generalize (Lib.decodeGo t).2 = K at *
   generalize runeOf t = ru at *
   generalize restOf t = rt at *
   go_wp2_with fail
   refine HDT.out.mono ?_
   rintro e W2 ⟨rfl,hb2⟩
   have C2:=Lib.hid (C.out.below hb2)
   clear HDT C hb2
   have hR:(R:Int) ≤ 1114111:=by omega
   obtain ⟨q,hq⟩:∃ q,decide (R = 65533 ∧ K = 1) = q:=⟨_,rfl⟩
   have HQ:=Lib.hid hq
   clear hq
   go_upto_region 4 with (fail)
   go_cut [18] (fun q18 wx => q18 = .bool q ∧ wx = W2)
   case first =>
    by_cases g1:R = 65533
    ·have k1:((R:Int) == 65533) = true:=by simp;omega
     by_cases g2:K = 1
     ·have k2:((K:Int) == 1) = true:=by simp;omega
      have hd:Hid (q = true):=HQ.out.symm.trans (decide_eq_true ⟨g1,g2⟩)
      clear g1 g2
      go_wp2_with fail
      all_goals (go_meet;exact ⟨by rw [hd.out],rfl⟩)
     ·have k2:((K:Int) == 1) = false:=by simp;omega
      have hd:Hid (q = false):=HQ.out.symm.trans (decide_eq_false (fun c => g2 c.2))
      clear g1 g2
      go_wp2_with fail
      all_goals (go_meet;exact ⟨by rw [hd.out],rfl⟩)
    ·have k1:((R:Int) == 65533) = false:=by simp;omega
     have hd:Hid (q = false):=HQ.out.symm.trans (decide_eq_false (fun c => g1 c.1))
     clear g1
     go_wp2_with fail
     all_goals (go_meet;exact ⟨by rw [hd.out],rfl⟩)
   case rest =>
    obtain ⟨rfl,rfl⟩:=hcut
    have HFIN:Hid (∀ v1 w2,InM H w.heap.size v1 (ds ++ [ru]) w w2 → (∃ (t_1:ByteArray) (ds_1:List Int),Value.string (t.extract K t.size) = .string t_1 ∧ Hid (InM H w.heap.size v1 ds_1 w w2) ∧ Hid (ptS s = ds_1 ++ ptS t_1) ∧ t_1.size ≤ s.size ∧ ds_1.length + t_1.size ≤ s.size)):=fun v1 w2 CA => ⟨t.extract K t.size,ds ++ [ru],rfl,CA,(by
      show _ = _
      rw [← HRE.out,List.append_assoc,List.singleton_append,← HST.out];exact hpt.out),by rw [← HRE.out];have:=HRZ.out;omega,by rw [← HRE.out];have:=HRZ.out;simp only [List.length_append,List.length_singleton];omega⟩
    have HMEA:Hid ((t.extract K t.size).size < t.size):=by rw [← HRE.out];exact HRZ.out.1
    generalize hv2:Value.slice A ds.length cap = v2 at C2
    have HOr:=Lib.hid C2.out.row
    have HSA:=Lib.hid (fun v' W' o g1 at1 => C2.out.app (v':=v') (W':=W') (ds':=ds ++ [ru]) o g1 at1)
    have hB9:=C2.out.le
    cases q with
    | true =>
     have hrt:ru = (-1:Int) - (((t[0]'h0).toNat:Nat):Int):=by
      rw [HRU.out,if_pos (of_decide_eq_true HQ.out),rune_head h0]
     obtain ⟨w1,w2⟩:=byte_wrap64 (t[0]'h0)
     have HR2:=Lib.hid hrt
     have HW1:=Lib.hid w1
     have HW2:=Lib.hid w2
     clear hrt HQ w2
     go_wp2_with (at_builtin;refine wpList_app_at rfl _ _ 22 rfl w.heap.size 3 i0 (.int .i64 0) 1 8 Tryz.underlying22 hi0 hz0 hz1 hz2 rfl (by decide) fI _ ds rfl HOr.out ru #[.int .i64 (wrap64 (-1 - (((t[0]'h0).toNat:Nat):Int)))] 3 rfl (congrArg (fun z:Int => [Value.int .i64 z]) (HR2.out.trans HW2.out.symm)) (by simp [Value.oneCell']) (by omega) (by omega) hB9 ?_;intro v1 w2 o1 g1 b1 at1;have CA:=Lib.hid (HSA.out v1 w2 o1 g1 at1);clear o1 g1 b1 at1 HSA HOr)
     go_roundw
     case rel => exact HFIN.out _ _ CA.out
     case measure => exact HMEA.out
    | false =>
     have hrt:ru = R:=by rw [HRU.out,if_neg (of_decide_eq_false HQ.out)]
     have HR2:=Lib.hid hrt
     clear hrt HQ
     go_wp2_with (at_builtin;refine wpList_app_at rfl _ _ 22 rfl w.heap.size 3 i0 (.int .i64 0) 1 8 Tryz.underlying22 hi0 hz0 hz1 hz2 rfl (by decide) fI _ ds rfl HOr.out ru #[.int .i64 (R:Int)] 3 rfl (congrArg (fun z:Int => [Value.int .i64 z]) HR2.out) (by simp [Value.oneCell']) (by omega) (by omega) hB9 ?_;intro v1 w2 o1 g1 b1 at1;have CA:=Lib.hid (HSA.out v1 w2 o1 g1 at1);clear o1 g1 b1 at1 HSA HOr)
     go_roundw
     case rel => exact HFIN.out _ _ CA.out
     case measure => exact HMEA.out
open Go.RowKit
theorem dropWhile_nil {p:UInt8 → Bool} {l:List UInt8}:l.dropWhile p = [] ↔ l.all p = true:=by
 induction l with
 | nil => simp
 | cons a l ih => by_cases h:p a = true <;> simp [h,ih]
theorem trimS_nil (l cs:List UInt8):Lib.trimS l cs = [] ↔ l.all (cs.contains ·) = true:=by
 unfold Lib.trimS Lib.trimLeftS Lib.trimRightS
 rw [dropWhile_nil,List.all_reverse]
 constructor
 ·intro h
  have h1:l.reverse.dropWhile (cs.contains ·) = []:=by
   cases e:l.reverse.dropWhile (cs.contains ·) with
   | nil => rfl
   | cons a t =>
    rw [e] at h
    have h2:=List.head?_dropWhile_not (cs.contains ·) l.reverse
    rw [e] at h2
    simp at h2 h
    exact absurd h.1 h2
  rw [dropWhile_nil,List.all_reverse] at h1
  exact h1
 ·intro h
  have h1:l.reverse.dropWhile (cs.contains ·) = []:=by rw [dropWhile_nil,List.all_reverse];exact h
  rw [h1]
  rfl
def smalls:ByteArray:=⟨#[97,98,99,100,101,102,103,104,105,106,107,108,109,110,111,112,113,114,115,116,117,118,119,120,121,122]⟩
def keySigns:ByteArray:=⟨#[97,98,99,100,101,102,103,104,105,106,107,108,109,110,111,112,113,114,115,116,117,118,119,120,121,122,48,49,50,51,52,53,54,55,56,57,45,95]⟩
theorem small_in (c:UInt8):smalls.data.toList.contains c = smallB c:=by
 have:∀ n:Fin 256,smalls.data.toList.contains (UInt8.ofNat n.val) = smallB (UInt8.ofNat n.val):=by decide +kernel
 have h:=this ⟨c.toNat,c.toNat_lt⟩
 simpa using h
theorem key_in (c:UInt8):keySigns.data.toList.contains c = keyC c:=by
 have:∀ n:Fin 256,keySigns.data.toList.contains (UInt8.ofNat n.val) = keyC (UInt8.ofNat n.val):=by decide +kernel
 have h:=this ⟨c.toNat,c.toNat_lt⟩
 simpa using h
set_option maxHeartbeats 400000 in
theorem in_any (n l h:Int) (w:World):Calls Tryz.prog 107 #[.int .i64 n,.int .i64 l,.int .i64 h] w fun e w' => e = .returned (.bool (decide (l ≤ n) && decide (n ≤ h))) ∧ w = w':=by
 by_cases h1:l ≤ n
 ·go_enter Tryz.func107,Tryz.ntmps107
  go_wp2
  go_ret
  exact ⟨by simp [h1],rfl⟩
 ·go_enter Tryz.func107,Tryz.ntmps107
  go_wp2
  go_ret
  exact ⟨by simp;omega,rfl⟩
def onlyB (s cut:ByteArray):Bool:=s.data.toList.all (cut.data.toList.contains ·)
set_option maxHeartbeats 400000 in
theorem only_any (s cut:ByteArray) (w:World) (hs:s.size ≤ 1000000000) (hcs:cut.size < 1000) (hascii:∀ (j:Nat) b,cut.data.toList[j]? = some b → b.toNat < 128) :
  Calls Tryz.prog 136 #[.string s,.string cut] w fun e w' => e = .returned (.bool (onlyB s cut)) ∧ Below w.heap.size w w':=by
 have HT:=Lib.hid (Any.strings_Trim_laid Tryz.lays160 (by kernel_rfl) s cut w (by omega) (by omega) hascii)
 have hv:Hid ((ByteArray.mk (Lib.trimS s.data.toList cut.data.toList).toArray).toList = [] ↔ onlyB s cut = true):=by
  show _ ↔ _
  rw [ByteArray.toList_eq]
  exact trimS_nil _ _
 clear hascii
 go_enter Tryz.func136,Tryz.ntmps136
 go_wp2_with fail
 refine HT.out.mono ?_
 rintro e w1 ⟨rfl,hb⟩
 generalize ByteArray.mk (Lib.trimS s.data.toList cut.data.toList).toArray = X at hv
 have HB:=Lib.hid hb
 clear hb HT
 by_cases hX:X.toList = []
 ·have h1:X.toList.isEmpty = true:=by rw [hX];rfl
  have hr:=Lib.hid (hv.out.1 hX)
  have HX:=Lib.hid hX
  clear hX
  go_wp2_with fail
  go_ret
  exact ⟨ret_bool' hr.out.symm,HB.out⟩
 ·have h1:X.toList.isEmpty = false:=by cases e:X.toList with | nil => exact absurd e hX | cons a l => rfl
  have hr:Hid (onlyB s cut = false):=by
   show _ = _
   cases e:onlyB s cut with
   | false => rfl
   | true => exact absurd (hv.out.2 e) hX
  clear hX
  go_wp2_with fail
  go_ret
  exact ⟨ret_bool' hr.out.symm,HB.out⟩
theorem ascii_of (cut:ByteArray) (h:(cut.data.toList.all fun b => decide (b.toNat < 128)) = true):∀ (j:Nat) b,cut.data.toList[j]? = some b → b.toNat < 128:=fun j b hb => by
 have:=List.all_eq_true.1 h b (List.mem_of_getElem? hb)
 simpa using this
set_option maxHeartbeats 1000000 in
theorem Key_any (s:ByteArray) (w:World) (hs:s.size ≤ 1000000000) :
  Calls Tryz.prog 108 #[.string s] w fun e w' => e = .returned (.bool (isKey s)) ∧ Below w.heap.size w w':=by
 by_cases h1:1 ≤ s.size ∧ s.size ≤ 40
 ·have h2:(decide ((1:Int) ≤ (s.size:Int)) && decide ((s.size:Int) ≤ 40)) = true:=by simp;omega
  have h0:0 < s.size:=by omega
  have H2:=Lib.hid h2
  have hh:Hid (isKey s = (onlyB (s.extract 0 1) smalls && onlyB s keySigns)):=by
   show _ = _
   have e1:s.data.toList.head? = some s[0]:=by
    rw [List.head?_eq_getElem?,List.getElem?_eq_getElem (by simpa using h0)];rfl
   have e2:(s.extract 0 1).data.toList = [s[0]]:=by
    rw [ByteArray.data_extract]
    have:s.data.toList.length = s.size:=by simp
    simp [Array.toList_extract,List.take_one,e1]
   unfold isKey onlyB
   rw [e1,e2,decide_eq_true h1]
   simp only [List.all_cons,List.all_nil,Bool.and_true,Option.map_some,Option.getD_some,Bool.true_and,small_in]
   congr 1
   unfold allB
   apply List.all_congr rfl
   intro c
   exact (key_in c).symm
  have hsz1:(s.extract 0 1).size ≤ 1000000000:=by simp;omega
  clear h2
  go_enter Tryz.func108,Tryz.ntmps108
  go_wp2_with fail
  refine (in_any _ _ _ _).mono ?_
  rintro e w' ⟨rfl,rfl⟩
  rw [H2.out]
  go_wp2_with fail
  refine (only_any (s.extract 0 1) _ w hsz1 (by decide) (ascii_of _ (by decide))).mono ?_
  rintro e w1 ⟨rfl,hb1⟩
  have HB1:=Lib.hid hb1
  clear hb1
  generalize hq:onlyB (s.extract 0 1) _ = q
  have hq':Hid (isKey s = (q && onlyB s keySigns)):=by rw [← hq];exact hh
  clear hq hh
  cases q with
  | false =>
   go_wp2_with fail
   go_ret
   exact ⟨ret_bool' (hq'.out.trans (Bool.false_and _)).symm,HB1.out⟩
  | true =>
   go_wp2_with fail
   refine (only_any s _ w1 hs (by decide) (ascii_of _ (by decide))).mono ?_
   rintro e w2 ⟨rfl,hb2⟩
   have HB2:=Lib.hid (HB1.out.trans (hb2.mono HB1.out.size))
   clear hb2
   generalize hp:onlyB s _ = p
   have hp':Hid (isKey s = p):=by show _ = _;rw [← hp,hq'.out,Bool.true_and];rfl
   clear hp hq'
   go_wp2_with fail
   go_ret
   exact ⟨ret_bool' hp'.out.symm,HB2.out⟩
 ·have h2:(decide ((1:Int) ≤ (s.size:Int)) && decide ((s.size:Int) ≤ 40)) = false:=by simp;omega
  have H2:=Lib.hid h2
  have hh:Hid (isKey s = false):=by show _ = _;unfold isKey;rw [decide_eq_false h1];rfl
  clear h2
  go_enter Tryz.func108,Tryz.ntmps108
  go_wp2_with fail
  refine (in_any _ _ _ _).mono ?_
  rintro e w' ⟨rfl,rfl⟩
  rw [H2.out]
  go_wp2_with fail
  go_ret
  exact ⟨ret_bool' hh.out.symm,Below.refl _ _⟩
end Go.Proofs.YtcncifmanodabaaGreatDoor
