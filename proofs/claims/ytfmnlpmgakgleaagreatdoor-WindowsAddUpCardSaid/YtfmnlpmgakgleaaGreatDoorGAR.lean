/- Texts of this claim, put together: NormA, NormW, Runes, RefValP, RefPts, RefKey. -/
import Derived.Test.YtfmnlpmgakgleaaGreatDoorGAQ
import Derived.Test.YtfmnlpmgakgleaaGreatDoorGAP
import Derived.Lib.Bytes2
import Derived.Laws.ResultCell
import Derived.Test.YtfmnlpmgakgleaaGreatDoorGAH
import Derived.Lib.ValidLaws
import Derived.Lib.TrimUEq
import Derived.Test.YtfmnlpmgakgleaaGreatDoorGAD
import Derived.Test.YtfmnlpmgakgleaaGreatDoorShelf
import Derived.Shelf.Strings.SlTrimAscii
namespace Go.Proofs.YtfmnlpmgakgleaaGreatDoor
set_option linter.unusedVariables false
open Go.RowKit
structure LB (w:World) (g:Nat) (l:List UInt8) (wr:World):Prop where
 bytes:Bytes wr g l
 froz:∀ j,j < l.length → wr.frozen? ⟨g,j,none⟩ = false
 bel:Below w.heap.size w wr
 ge:w.heap.size ≤ g
theorem LB.set {w wr:World} {g:Nat} {l:List UInt8} (h:LB w g l wr) {i:Nat} (hi:i < l.length) (x:UInt8):LB w g (l.set i x) (wr.setCell ⟨g,i,none⟩ (vb x)):=by
 refine ⟨h.bytes.set hi x,fun j hj => ?_,?_,h.ge⟩
 ·rw [List.length_set] at hj
  have:=h.froz j hj
  simp only [World.frozen?,World.setCell,Array.getElem?_modify] at this ⊢
  simp only [if_true]
  generalize wr.heap[g]? = oo at this ⊢
  cases oo with
  | none => exact this
  | some o =>
   cases o with
   | cells cs T p => obtain ⟨lo,hi'⟩:=p;exact this
   | _ => exact this
 ·exact ⟨h.bel.os,h.bel.tape,h.bel.output,Nat.le_trans h.bel.size (by simp [World.setCell]),fun q hq => (Below.heap_setCell wr ⟨g,i,none⟩ _ q (by have:=h.ge;show q ≠ g;omega)).trans (h.bel.block q hq)⟩
open Go.RowKit
theorem ba_drop (s:ByteArray) (k:Nat):s.extract k s.size = ⟨(s.data.toList.drop k).toArray⟩:=ba_ext (by
 rw [ByteArray.data_extract,Array.toList_extract]
 simp only [List.extract]
 exact List.take_of_length_le (by simp))
open Go.RowKit
theorem empty_size {t:ByteArray}:t.toList.isEmpty = true ↔ t.size = 0:=by
 rw [size0V,List.isEmpty_iff]
theorem rune_head {c:ByteArray} (h:0 < c.size):c.data.toList.headD 0 = c[0]:=by
 cases c with
 | mk d =>
  cases d with
  | mk l =>
   cases l with
   | nil => exact absurd h (Nat.lt_irrefl 0)
   | cons x l => rfl
def strSize (v:Value):Nat:=match v with | .string t => t.size | _ => 0
open Go.RowKit
theorem decL_eq {s:ByteArray} (h:0 < s.size):Lib.decodeL s.data.toList = Lib.decodeGo s:=by
 unfold Lib.decodeL Lib.decodeGo
 rw [if_neg (by omega)]
theorem decN_bytes (n b0 b1 b2 b3:Nat) (h:¬ ((Lib.decodeN n b0 b1 b2 b3).1 = 65533 ∧ (Lib.decodeN n b0 b1 b2 b3).2 = 1)) :
  ((Lib.decodeN n b0 b1 b2 b3).2 = 1 ∧ (Lib.decodeN n b0 b1 b2 b3).1 = b0) ∨ ((Lib.decodeN n b0 b1 b2 b3).2 = 2 ∧ 128 ≤ b0 ∧ 128 ≤ b1) ∨ ((Lib.decodeN n b0 b1 b2 b3).2 = 3 ∧ 128 ≤ b0 ∧ 128 ≤ b1 ∧ 128 ≤ b2) ∨ ((Lib.decodeN n b0 b1 b2 b3).2 = 4 ∧ 128 ≤ b0 ∧ 128 ≤ b1 ∧ 128 ≤ b2 ∧ 128 ≤ b3):=by
 unfold Lib.decodeN at h ⊢
 repeat' split
 all_goals simp only at h ⊢
 all_goals first | omega | (simp_all;done) | (split at h <;> simp_all <;> omega)
theorem txt_all:∀ (n:Nat) (s:ByteArray),s.size ≤ n → (∀ p ∈ ptS s,32 ≤ p ∧ p ≠ 127) → Lib.validD s.data.toList = true ∧ ∀ c ∈ s.data.toList,txtC c = true
 | 0,s,hn,_ => by
  have hz:s.data.toList.length = s.size:=by simp
  have:s.data.toList = []:=List.eq_nil_of_length_eq_zero (by omega)
  rw [this]
  exact ⟨Lib.validD_nil,fun c hc => by cases hc⟩
 | n + 1,s,hn,h => by
  have hz:s.data.toList.length = s.size:=by simp
  rcases Nat.eq_zero_or_pos s.size with h0 | h0
  ·have:s.data.toList = []:=List.eq_nil_of_length_eq_zero (by omega)
   rw [this]
   exact ⟨Lib.validD_nil,fun c hc => by cases hc⟩
  rw [ptS_step h0] at h
  have hr:=h (runeOf s) (by simp)
  have hrs:=restOf_size h0
  obtain ⟨i1,i2⟩:=txt_all n (restOf s) (by omega) (fun p hp => h p (by simp [hp]))
  have hd:=dec_bound h0
  have herr:¬ ((Lib.decodeGo s).1 = 65533 ∧ (Lib.decodeGo s).2 = 1):=fun c => by
   unfold runeOf at hr
   rw [if_pos c] at hr
   omega
  have hrune:runeOf s = ((Lib.decodeGo s).1:Int):=by unfold runeOf;rw [if_neg herr]
  have hrest:(restOf s).data.toList = s.data.toList.drop (Lib.decodeGo s).2:=by
   unfold restOf
   rw [ba_drop]
  have hne:s.data.toList ≠ []:=fun c => by rw [c] at hz;simp at hz;omega
  constructor
  ·rw [Lib.validD_step _ hne,decL_eq h0,if_neg herr,← hrest]
   exact i1
  ·intro c hc
   rw [← List.take_append_drop (Lib.decodeGo s).2 s.data.toList,← hrest] at hc
   rcases List.mem_append.1 hc with hc | hc
   ·have hN:=Lib.decodeL_N s.data.toList
    rw [decL_eq h0] at hN
    rw [hN] at herr hrune hd hc
    have hb:=decN_bytes _ _ _ _ _ herr
    obtain ⟨j,hj,rfl⟩:=List.getElem_of_mem hc
    rw [List.length_take] at hj
    rw [List.getElem_take]
    have hgj:s.data.toList[j] = s.data.toList.getD j 0:=by rw [List.getD_eq_getElem?_getD,List.getElem?_eq_getElem (by omega)];rfl
    rw [hgj]
    unfold txtC
    rw [Bool.and_eq_true,decide_eq_true_iff,decide_eq_true_iff]
    rcases hb with ⟨e1,e2⟩ | ⟨e1,e2,e3⟩ | ⟨e1,e2,e3,e4⟩ | ⟨e1,e2,e3,e4,e5⟩
    ·rw [e1] at hj
     have:j = 0:=by omega
     subst this
     rw [hrune,e2] at hr
     omega
    ·rw [e1] at hj
     have:j = 0 ∨ j = 1:=by omega
     rcases this with rfl | rfl <;> omega
    ·rw [e1] at hj
     have:j = 0 ∨ j = 1 ∨ j = 2:=by omega
     rcases this with rfl | rfl | rfl <;> omega
    ·rw [e1] at hj
     have:j = 0 ∨ j = 1 ∨ j = 2 ∨ j = 3:=by omega
     rcases this with rfl | rfl | rfl | rfl <;> omega
   ·exact i2 c hc
theorem okT_of {s:ByteArray} (h:∀ p ∈ ptS s,32 ≤ p ∧ p ≠ 127):okT s = true:=by
 obtain ⟨h1,h2⟩:=txt_all s.size s (Nat.le_refl _) h
 unfold okT
 rw [h1]
 exact List.all_eq_true.2 h2
open Go.RowKit
theorem infoInt9:(Tryz.prog.info? 3).map (fun i => (i.zero,i.size,i.bytes)) = some (some (.int .i64 0),1,8):=by kernel_rfl
theorem byte_wrap64 (b:UInt8):wrap64 ((b.toNat:Nat):Int) = ((b.toNat:Nat):Int) ∧ wrap64 (-1 - ((b.toNat:Nat):Int)) = -1 - ((b.toNat:Nat):Int):=by
 have:=b.toNat_lt
 exact ⟨IntWalk.wrap64_in _ (by omega),IntWalk.wrap64_in _ (by omega)⟩
abbrev InM:=IG (D:=Int) 3 1 fI
set_option maxHeartbeats 4000000 in
set_option maxRecDepth 100000 in
theorem refPts_any (H:Frz) (hU:UtfIn H) (s:ByteArray) (w:World) (hH:H.In w) (hs:s.size ≤ 1000000) :
  Calls Tryz.prog 249 #[.string s] w fun e w' => ∃ v,e = .returned v ∧ InM H w.heap.size v (ptS s) w w':=by
 obtain ⟨i0,hi0,hz0,hz1,hz2⟩:=info_parts infoInt9
 have C0:Hid (InM H w.heap.size (.slice none 0 0) [] w w):=⟨hH,Orow.nil _ _ _ _ _,(fun g hg => by cases hg),Below.refl _ _,Nat.le_refl _,Nat.le_refl _⟩
 have HDE:=Lib.hid (fun t W (hW:H.In W) => Tryz.utf8_DecodeRuneInString t W (hU W hW))
 clear hH hU
 go_enter Tryz.func249,Tryz.ntmps249
 go_wp2_with fail
 go_loopw [0,3] (fun x v wr => ∃ (t:ByteArray) (ds:List Int),x = .string t ∧ Hid (InM H w.heap.size v ds w wr) ∧ Hid (ptS s = ds ++ ptS t) ∧ t.size ≤ s.size ∧ ds.length + t.size ≤ s.size) (fun x _ _ => strSize x)
 case atStart => exact ⟨s,[],rfl,C0,rfl,Nat.le_refl _,by simp⟩
 case round =>
  obtain ⟨t,ds,rfl,C,hpt,hts,hdl⟩:=hrel
  clear C0
  obtain ⟨A,cap,hv,hle⟩:=C.out.row.slice
  subst hv
  cases hem:t.toList.isEmpty with
  | true =>
   have h0:=empty_size.1 hem
   have HF:Hid (InM H w.heap.size (.slice A ds.length cap) (ptS s) w wr):=by
    have e:=hpt.out
    rw [ptS_nil h0,List.append_nil] at e
    show InM _ _ _ _ _ _
    rw [e]
    exact C.out
   go_wp2_with fail
   exact bodyPost_ret (by kernel_rfl) rfl ⟨_,rfl,HF.out⟩
  | false =>
   have h0:0 < t.size:=by
    apply Classical.byContradiction
    intro c
    have:=empty_size.2 (show t.size = 0 by omega)
    rw [hem] at this
    cases this
   have hdb:=dec_bound h0
   have HST:=Lib.hid (ptS_step h0)
   have HRZ:=Lib.hid (restOf_size h0)
   have hrb:=runeOf_bound h0
   have HRU:Hid (runeOf t = if (Lib.decodeGo t).1 = 65533 ∧ (Lib.decodeGo t).2 = 1 then -1 - ((t.data.toList.headD 0).toNat:Int) else ((Lib.decodeGo t).1:Int)):=rfl
   have HRE:Hid (restOf t = t.extract (Lib.decodeGo t).2 t.size):=rfl
   have HDT:=Lib.hid (HDE.out t wr C.out.inn)
   generalize (Lib.decodeGo t).1 = R at *
   generalize (Lib.decodeGo t).2 = K at *
   generalize runeOf t = ru at *
   generalize restOf t = rt at *
   go_wp2_with fail
   refine HDT.out.mono ?_
   rintro e W2 ⟨rfl,hb2⟩
   have C2:=Lib.hid (C.out.below hb2)
   clear HDT C hb2
   have hR:(R:Int) ≤ 1114111:=by omega
   obtain ⟨q,hq⟩:∃ q,decide (R = 65533 ∧ K = 1) = q:=⟨_,rfl⟩
   have HQ:=Lib.hid hq
   clear hq
   go_upto_region 4 with (fail)
   go_cut [18] (fun q18 wx => q18 = .bool q ∧ wx = W2)
   case first =>
    by_cases g1:R = 65533
    ·have k1:((R:Int) == 65533) = true:=by simp;omega
     by_cases g2:K = 1
     ·have k2:((K:Int) == 1) = true:=by simp;omega
      have hd:Hid (q = true):=HQ.out.symm.trans (decide_eq_true ⟨g1,g2⟩)
      clear g1 g2
      go_wp2_with fail
      all_goals (go_meet;exact ⟨by rw [hd.out],rfl⟩)
     ·have k2:((K:Int) == 1) = false:=by simp;omega
      have hd:Hid (q = false):=HQ.out.symm.trans (decide_eq_false (fun c => g2 c.2))
      clear g1 g2
      go_wp2_with fail
      all_goals (go_meet;exact ⟨by rw [hd.out],rfl⟩)
    ·have k1:((R:Int) == 65533) = false:=by simp;omega
     have hd:Hid (q = false):=HQ.out.symm.trans (decide_eq_false (fun c => g1 c.1))
     clear g1
     go_wp2_with fail
     all_goals (go_meet;exact ⟨by rw [hd.out],rfl⟩)
   case rest =>
    obtain ⟨rfl,rfl⟩:=hcut
    have HFIN:Hid (∀ v1 w2,InM H w.heap.size v1 (ds ++ [ru]) w w2 → (∃ (t_1:ByteArray) (ds_1:List Int),Value.string (t.extract K t.size) = .string t_1 ∧ Hid (InM H w.heap.size v1 ds_1 w w2) ∧ Hid (ptS s = ds_1 ++ ptS t_1) ∧ t_1.size ≤ s.size ∧ ds_1.length + t_1.size ≤ s.size)):=fun v1 w2 CA => ⟨t.extract K t.size,ds ++ [ru],rfl,CA,(by
      show _ = _
      rw [← HRE.out,List.append_assoc,List.singleton_append,← HST.out];exact hpt.out),by rw [← HRE.out];have:=HRZ.out;omega,by rw [← HRE.out];have:=HRZ.out;simp only [List.length_append,List.length_singleton];omega⟩
    have HMEA:Hid ((t.extract K t.size).size < t.size):=by rw [← HRE.out];exact HRZ.out.1
    generalize hv2:Value.slice A ds.length cap = v2 at C2
    have HOr:=Lib.hid C2.out.row
    have HSA:=Lib.hid (fun v' W' o g1 at1 => C2.out.app (v':=v') (W':=W') (ds':=ds ++ [ru]) o g1 at1)
    have hB9:=C2.out.le
    cases q with
    | true =>
     have hrt:ru = (-1:Int) - (((t[0]'h0).toNat:Nat):Int):=by
      rw [HRU.out,if_pos (of_decide_eq_true HQ.out),rune_head h0]
     obtain ⟨w1,w2⟩:=byte_wrap64 (t[0]'h0)
     have HR2:=Lib.hid hrt
     have HW1:=Lib.hid w1
     have HW2:=Lib.hid w2
     clear hrt HQ w2
     go_wp2_with (at_builtin;refine wpList_app_at rfl _ _ 22 rfl w.heap.size 3 i0 (.int .i64 0) 1 8 Tryz.underlying22 hi0 hz0 hz1 hz2 rfl (by decide) fI _ ds rfl HOr.out ru #[.int .i64 (wrap64 (-1 - (((t[0]'h0).toNat:Nat):Int)))] 3 rfl (congrArg (fun z:Int => [Value.int .i64 z]) (HR2.out.trans HW2.out.symm)) (by simp [Value.oneCell']) (by omega) (by omega) hB9 ?_;intro v1 w2 o1 g1 b1 at1;have CA:=Lib.hid (HSA.out v1 w2 o1 g1 at1);clear o1 g1 b1 at1 HSA HOr)
     go_roundw
     case rel => exact HFIN.out _ _ CA.out
     case measure => exact HMEA.out
    | false =>
     have hrt:ru = R:=by rw [HRU.out,if_neg (of_decide_eq_false HQ.out)]
     have HR2:=Lib.hid hrt
     clear hrt HQ
     go_wp2_with (at_builtin;refine wpList_app_at rfl _ _ 22 rfl w.heap.size 3 i0 (.int .i64 0) 1 8 Tryz.underlying22 hi0 hz0 hz1 hz2 rfl (by decide) fI _ ds rfl HOr.out ru #[.int .i64 (R:Int)] 3 rfl (congrArg (fun z:Int => [Value.int .i64 z]) HR2.out) (by simp [Value.oneCell']) (by omega) (by omega) hB9 ?_;intro v1 w2 o1 g1 b1 at1;have CA:=Lib.hid (HSA.out v1 w2 o1 g1 at1);clear o1 g1 b1 at1 HSA HOr)
     go_roundw
     case rel => exact HFIN.out _ _ CA.out
     case measure => exact HMEA.out
open Go.RowKit
theorem dropWhile_nil {p:UInt8 → Bool} {l:List UInt8}:l.dropWhile p = [] ↔ l.all p = true:=by
 induction l with
 | nil => simp
 | cons a l ih => by_cases h:p a = true <;> simp [h,ih]
theorem trimS_nil (l cs:List UInt8):Lib.trimS l cs = [] ↔ l.all (cs.contains ·) = true:=by
 unfold Lib.trimS Lib.trimLeftS Lib.trimRightS
 rw [dropWhile_nil,List.all_reverse]
 constructor
 ·intro h
  have h1:l.reverse.dropWhile (cs.contains ·) = []:=by
   cases e:l.reverse.dropWhile (cs.contains ·) with
   | nil => rfl
   | cons a t =>
    rw [e] at h
    have h2:=List.head?_dropWhile_not (cs.contains ·) l.reverse
    rw [e] at h2
    simp at h2 h
    exact absurd h.1 h2
  rw [dropWhile_nil,List.all_reverse] at h1
  exact h1
 ·intro h
  have h1:l.reverse.dropWhile (cs.contains ·) = []:=by rw [dropWhile_nil,List.all_reverse];exact h
  rw [h1]
  rfl
def smalls:ByteArray:=⟨#[97,98,99,100,101,102,103,104,105,106,107,108,109,110,111,112,113,114,115,116,117,118,119,120,121,122]⟩
def keySigns:ByteArray:=⟨#[97,98,99,100,101,102,103,104,105,106,107,108,109,110,111,112,113,114,115,116,117,118,119,120,121,122,48,49,50,51,52,53,54,55,56,57,45,95]⟩
theorem small_in (c:UInt8):smalls.data.toList.contains c = smallB c:=by
 have:∀ n:Fin 256,smalls.data.toList.contains (UInt8.ofNat n.val) = smallB (UInt8.ofNat n.val):=by decide +kernel
 have h:=this ⟨c.toNat,c.toNat_lt⟩
 simpa using h
theorem key_in (c:UInt8):keySigns.data.toList.contains c = keyC c:=by
 have:∀ n:Fin 256,keySigns.data.toList.contains (UInt8.ofNat n.val) = keyC (UInt8.ofNat n.val):=by decide +kernel
 have h:=this ⟨c.toNat,c.toNat_lt⟩
 simpa using h
set_option maxHeartbeats 400000 in
theorem in_any (n l h:Int) (w:World):Calls Tryz.prog 153 #[.int .i64 n,.int .i64 l,.int .i64 h] w fun e w' => e = .returned (.bool (decide (l ≤ n) && decide (n ≤ h))) ∧ w = w':=by
 by_cases h1:l ≤ n
 ·go_enter Tryz.func153,Tryz.ntmps153
  go_wp2
  go_ret
  exact ⟨by simp [h1],rfl⟩
 ·go_enter Tryz.func153,Tryz.ntmps153
  go_wp2
  go_ret
  exact ⟨by simp;omega,rfl⟩
def onlyB (s cut:ByteArray):Bool:=s.data.toList.all (cut.data.toList.contains ·)
set_option maxHeartbeats 400000 in
theorem only_any (s cut:ByteArray) (w:World) (hs:s.size ≤ 1000000000) (hcs:cut.size < 1000) (hascii:∀ (j:Nat) b,cut.data.toList[j]? = some b → b.toNat < 128) :
  Calls Tryz.prog 211 #[.string s,.string cut] w fun e w' => e = .returned (.bool (onlyB s cut)) ∧ Below w.heap.size w w':=by
 have HT:=Lib.hid (Any.strings_Trim_laid Tryz.lays160 (by kernel_rfl) s cut w (by omega) (by omega) hascii)
 have hv:Hid ((ByteArray.mk (Lib.trimS s.data.toList cut.data.toList).toArray).toList = [] ↔ onlyB s cut = true):=by
  show _ ↔ _
  rw [ByteArray.toList_eq]
  exact trimS_nil _ _
 clear hascii
 go_enter Tryz.func211,Tryz.ntmps211
 go_wp2_with fail
 refine HT.out.mono ?_
 rintro e w1 ⟨rfl,hb⟩
 generalize ByteArray.mk (Lib.trimS s.data.toList cut.data.toList).toArray = X at hv
 have HB:=Lib.hid hb
 clear hb HT
 by_cases hX:X.toList = []
 ·have h1:X.toList.isEmpty = true:=by rw [hX];rfl
  have hr:=Lib.hid (hv.out.1 hX)
  have HX:=Lib.hid hX
  clear hX
  go_wp2_with fail
  go_ret
  exact ⟨ret_bool' hr.out.symm,HB.out⟩
 ·have h1:X.toList.isEmpty = false:=by cases e:X.toList with | nil => exact absurd e hX | cons a l => rfl
  have hr:Hid (onlyB s cut = false):=by
   show _ = _
   cases e:onlyB s cut with
   | false => rfl
   | true => exact absurd (hv.out.2 e) hX
  clear hX
  go_wp2_with fail
  go_ret
  exact ⟨ret_bool' hr.out.symm,HB.out⟩
theorem ascii_of (cut:ByteArray) (h:(cut.data.toList.all fun b => decide (b.toNat < 128)) = true):∀ (j:Nat) b,cut.data.toList[j]? = some b → b.toNat < 128:=fun j b hb => by
 have:=List.all_eq_true.1 h b (List.mem_of_getElem? hb)
 simpa using this
set_option maxHeartbeats 1000000 in
theorem Key_any (s:ByteArray) (w:World) (hs:s.size ≤ 1000000000) :
  Calls Tryz.prog 152 #[.string s] w fun e w' => e = .returned (.bool (isKey s)) ∧ Below w.heap.size w w':=by
 by_cases h1:1 ≤ s.size ∧ s.size ≤ 40
 ·have h2:(decide ((1:Int) ≤ (s.size:Int)) && decide ((s.size:Int) ≤ 40)) = true:=by simp;omega
  have h0:0 < s.size:=by omega
  have H2:=Lib.hid h2
  have hh:Hid (isKey s = (onlyB (s.extract 0 1) smalls && onlyB s keySigns)):=by
   show _ = _
   have e1:s.data.toList.head? = some s[0]:=by
    rw [List.head?_eq_getElem?,List.getElem?_eq_getElem (by simpa using h0)];rfl
   have e2:(s.extract 0 1).data.toList = [s[0]]:=by
    rw [ByteArray.data_extract]
    have:s.data.toList.length = s.size:=by simp
    simp [Array.toList_extract,List.take_one,e1]
   unfold isKey onlyB
   rw [e1,e2,decide_eq_true h1]
   simp only [List.all_cons,List.all_nil,Bool.and_true,Option.map_some,Option.getD_some,Bool.true_and,small_in]
   congr 1
   unfold allB
   apply List.all_congr rfl
   intro c
   exact (key_in c).symm
  have hsz1:(s.extract 0 1).size ≤ 1000000000:=by simp;omega
  clear h2
  go_enter Tryz.func152,Tryz.ntmps152
  go_wp2_with fail
  refine (in_any _ _ _ _).mono ?_
  rintro e w' ⟨rfl,rfl⟩
  rw [H2.out]
  go_wp2_with fail
  refine (only_any (s.extract 0 1) _ w hsz1 (by decide) (ascii_of _ (by decide))).mono ?_
  rintro e w1 ⟨rfl,hb1⟩
  have HB1:=Lib.hid hb1
  clear hb1
  generalize hq:onlyB (s.extract 0 1) _ = q
  have hq':Hid (isKey s = (q && onlyB s keySigns)):=by rw [← hq];exact hh
  clear hq hh
  cases q with
  | false =>
   go_wp2_with fail
   go_ret
   exact ⟨ret_bool' (hq'.out.trans (Bool.false_and _)).symm,HB1.out⟩
  | true =>
   go_wp2_with fail
   refine (only_any s _ w1 hs (by decide) (ascii_of _ (by decide))).mono ?_
   rintro e w2 ⟨rfl,hb2⟩
   have HB2:=Lib.hid (HB1.out.trans (hb2.mono HB1.out.size))
   clear hb2
   generalize hp:onlyB s _ = p
   have hp':Hid (isKey s = p):=by show _ = _;rw [← hp,hq'.out,Bool.true_and];rfl
   clear hp hq'
   go_wp2_with fail
   go_ret
   exact ⟨ret_bool' hp'.out.symm,HB2.out⟩
 ·have h2:(decide ((1:Int) ≤ (s.size:Int)) && decide ((s.size:Int) ≤ 40)) = false:=by simp;omega
  have H2:=Lib.hid h2
  have hh:Hid (isKey s = false):=by show _ = _;unfold isKey;rw [decide_eq_false h1];rfl
  clear h2
  go_enter Tryz.func152,Tryz.ntmps152
  go_wp2_with fail
  refine (in_any _ _ _ _).mono ?_
  rintro e w' ⟨rfl,rfl⟩
  rw [H2.out]
  go_wp2_with fail
  go_ret
  exact ⟨ret_bool' hh.out.symm,Below.refl _ _⟩
end Go.Proofs.YtfmnlpmgakgleaaGreatDoor
