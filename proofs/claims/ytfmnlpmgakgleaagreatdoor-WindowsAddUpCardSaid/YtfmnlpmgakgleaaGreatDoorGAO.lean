/- Texts of this claim, put together: EvCmp, Id, Id2. -/
import Derived.Test.YtfmnlpmgakgleaaGreatDoorGAK
import Derived.Test.YtfmnlpmgakgleaaGreatDoorGAG
import Derived.Test.YtfmnlpmgakgleaaGreatDoorGAF
import Derived.Test.YtfmnlpmgakgleaaGreatDoorGAD
import Derived.Test.YtfmnlpmgakgleaaGreatDoorShelf
import Derived.Deep.Cut
import Derived.StillTailTactics
import Derived.Lib.SplitLaws
namespace Go.Proofs.YtfmnlpmgakgleaaGreatDoor
set_option linter.unusedVariables false
open Go.RowKit
theorem evLt_eq (a b:EvD):evLt a b = (decide (a.at_ < b.at_) || ((a.at_ == b.at_) && Op.bytesLess a.id.toList b.id.toList)):=by
 unfold evLt
 congr 1
 have h1:decide (a.at_ = b.at_) = (a.at_ == b.at_):=by rw [Bool.eq_iff_iff];simp
 have h2:decide (cmpS a.id b.id < 0) = Op.bytesLess a.id.toList b.id.toList:=by
  rw [Bool.eq_iff_iff,decide_eq_true_eq];exact cmpS_lt
 rw [h1,h2]
set_option maxHeartbeats 2000000 in
set_option maxRecDepth 100000 in
theorem sorted1_any (a b:EvD) (w:World):Calls Tryz.prog 92 #[.agg #[.string a.id,.string a.name,.int .i64 a.at_,.int .i64 a.kind,.string a.text,.slice a.fa a.fields.length a.fc],.agg #[.string b.id,.string b.name,.int .i64 b.at_,.int .i64 b.kind,.string b.text,.slice b.fa b.fields.length b.fc]] w fun e w' => e = .returned (.int .i64 (evCf a b)) ∧ Gro w w':=by
 have HG:=Lib.hid ((Gro.alloc w (.cells #[.string a.id,.string a.name,.int .i64 a.at_,.int .i64 a.kind,.string a.text,.slice a.fa a.fields.length a.fc] 42)).trans (Gro.alloc _ (.cells #[.string b.id,.string b.name,.int .i64 b.at_,.int .i64 b.kind,.string b.text,.slice b.fa b.fields.length b.fc] 42)))
 have h1:((w.alloc (.cells #[.string a.id,.string a.name,.int .i64 a.at_,.int .i64 a.kind,.string a.text,.slice a.fa a.fields.length a.fc] 42)).alloc (.cells #[.string b.id,.string b.name,.int .i64 b.at_,.int .i64 b.kind,.string b.text,.slice b.fa b.fields.length b.fc] 42)).heap[w.heap.size]? = some (.cells #[.string a.id,.string a.name,.int .i64 a.at_,.int .i64 a.kind,.string a.text,.slice a.fa a.fields.length a.fc] 42):=(heap_lt (by simp)).trans (heap_alloc_new _ _)
 have h2:((w.alloc (.cells #[.string a.id,.string a.name,.int .i64 a.at_,.int .i64 a.kind,.string a.text,.slice a.fa a.fields.length a.fc] 42)).alloc (.cells #[.string b.id,.string b.name,.int .i64 b.at_,.int .i64 b.kind,.string b.text,.slice b.fa b.fields.length b.fc] 42)).heap[w.heap.size + 1]? = some (.cells #[.string b.id,.string b.name,.int .i64 b.at_,.int .i64 b.kind,.string b.text,.slice b.fa b.fields.length b.fc] 42):=heap_at (by simp)
 have H1:=Lib.hid h1
 have H2:=Lib.hid h2
 have HV:Hid (evCf a b = if evLt a b = true then -1 else 1):=rfl
 rw [evLt_eq] at HV
 clear h1 h2
 go_enter Tryz.func92,Tryz.ntmps92
 go_upto_region 1 with (fail)
 generalize (w.alloc (.cells #[.string a.id,.string a.name,.int .i64 a.at_,.int .i64 a.kind,.string a.text,.slice a.fa a.fields.length a.fc] 42)).alloc (.cells #[.string b.id,.string b.name,.int .i64 b.at_,.int .i64 b.kind,.string b.text,.slice b.fa b.fields.length b.fc] 42) = W2 at *
 have a0:=cell_h H1.out 0 (v:=.string a.id) rfl
 have a2:=cell_h H1.out 2 (v:=.int .i64 a.at_) rfl
 have b0:=cell_h H2.out 0 (v:=.string b.id) rfl
 have b2:=cell_h H2.out 2 (v:=.int .i64 b.at_) rfl
 generalize hk1:decide (a.at_ < b.at_) = k1 at HV
 generalize hk2:(a.at_ == b.at_) = k2 at HV
 generalize hk3:Op.bytesLess a.id.toList b.id.toList = k3 at HV
 cases k1 with
 | true =>
  go_wp2_with fail
  go_ret
  exact ⟨by rw [HV.out];rfl,HG.out⟩
 | false =>
  cases k2 with
  | false =>
   go_wp2_with fail
   go_ret
   exact ⟨by rw [HV.out];rfl,HG.out⟩
  | true =>
   cases k3 with
   | false =>
    go_wp2_with fail
    go_ret
    exact ⟨by rw [HV.out];rfl,HG.out⟩
   | true =>
    go_wp2_with fail
    go_ret
    exact ⟨by rw [HV.out];rfl,HG.out⟩
open Go.RowKit
theorem capital_any (c:UInt8) (w:World):Calls Tryz.prog 187 #[.int .u8 (c.toNat:Int)] w fun e w' => e = .returned (.bool (capB c)) ∧ w = w':=by
 unfold capB
 generalize (c.toNat:Int) = n
 by_cases h1:65 ≤ n
 ·go_enter Tryz.func187,Tryz.ntmps187
  go_wp2
  go_ret
  exact ⟨by simp [h1],rfl⟩
 ·go_enter Tryz.func187,Tryz.ntmps187
  go_wp2
  go_ret
  exact ⟨by simp;omega,rfl⟩
set_option maxHeartbeats 400000 in
theorem memC_any (c:UInt8) (w:World):Calls Tryz.prog 186 #[.int .u8 (c.toNat:Int)] w fun e w' => e = .returned (.bool (memC c)) ∧ w = w':=by
 go_enter Tryz.func186,Tryz.ntmps186
 go_wp2_with fail
 refine (digit_any c _).mono ?_
 rintro e w' ⟨rfl,rfl⟩
 generalize hs:digitB c = q1
 have HS:=Lib.hid hs
 clear hs
 cases q1 with
 | true =>
  go_wp2_with fail
  go_ret
  exact ⟨ret_bool' (by unfold memC;rw [HS.out];rfl),rfl⟩
 | false =>
  go_wp2_with fail
  refine (capital_any c _).mono ?_
  rintro e w' ⟨rfl,rfl⟩
  generalize hd:capB c = q2
  have HD:=Lib.hid hd
  clear hd
  go_wp2_with fail
  go_ret
  exact ⟨ret_bool' (by unfold memC;rw [HS.out,HD.out];rfl),rfl⟩
set_option maxHeartbeats 400000 in
theorem labC_any (c:UInt8) (w:World):Calls Tryz.prog 223 #[.int .u8 (c.toNat:Int)] w fun e w' => e = .returned (.bool (labC c)) ∧ w = w':=by
 go_enter Tryz.func223,Tryz.ntmps223
 go_wp2_with fail
 refine (small_any c _).mono ?_
 rintro e w' ⟨rfl,rfl⟩
 generalize hs:smallB c = q1
 have HS:=Lib.hid hs
 clear hs
 cases q1 with
 | true =>
  go_wp2_with fail
  go_ret
  exact ⟨ret_bool' (by unfold labC;rw [HS.out];rfl),rfl⟩
 | false =>
  go_wp2_with fail
  refine (digit_any c _).mono ?_
  rintro e w' ⟨rfl,rfl⟩
  generalize hd:digitB c = q2
  have HD:=Lib.hid hd
  clear hd
  cases q2 with
  | true =>
   go_wp2_with fail
   go_ret
   exact ⟨ret_bool' (by unfold labC;rw [HS.out,HD.out];rfl),rfl⟩
  | false =>
   go_wp2_with fail
   go_ret
   exact ⟨ret_bool' (by unfold labC;rw [HS.out,HD.out];rfl),rfl⟩
set_option maxHeartbeats 400000 in
theorem mailC_any (c:UInt8) (w:World):Calls Tryz.prog 183 #[.int .u8 (c.toNat:Int)] w fun e w' => e = .returned (.bool (mailC c)) ∧ w = w':=by
 go_enter Tryz.func183,Tryz.ntmps183
 go_wp2_with fail
 refine (small_any c _).mono ?_
 rintro e w' ⟨rfl,rfl⟩
 generalize hs:smallB c = q1
 have HS:=Lib.hid hs
 clear hs
 cases q1 with
 | true =>
  go_wp2_with fail
  go_ret
  exact ⟨ret_bool' (by unfold mailC;rw [HS.out];rfl),rfl⟩
 | false =>
  go_wp2_with fail
  refine (digit_any c _).mono ?_
  rintro e w' ⟨rfl,rfl⟩
  generalize hd:digitB c = q2
  have HD:=Lib.hid hd
  clear hd
  cases q2 with
  | true =>
   go_wp2_with fail
   go_ret
   exact ⟨ret_bool' (by unfold mailC;rw [HS.out,HD.out];rfl),rfl⟩
  | false =>
   cases h:((c.toNat:Int) == 46) with
   | true =>
    have HN:=Lib.hid h
    go_wp2_with fail
    go_ret
    exact ⟨ret_bool' (by unfold mailC;rw [HS.out,HD.out,HN.out];rfl),rfl⟩
   | false =>
    have HN:=Lib.hid h
    cases h2:((c.toNat:Int) == 45) with
    | true =>
     have HN2:=Lib.hid h2
     go_wp2_with fail
     go_ret
     exact ⟨ret_bool' (by unfold mailC;rw [HS.out,HD.out,HN.out,HN2.out];rfl),rfl⟩
    | false =>
     have HN2:=Lib.hid h2
     go_wp2_with fail
     go_ret
     exact ⟨ret_bool' (by unfold mailC;rw [HS.out,HD.out,HN.out,HN2.out];rfl),rfl⟩
set_option maxHeartbeats 400000 in
theorem devC_any (c:UInt8) (w:World):Calls Tryz.prog 188 #[.int .u8 (c.toNat:Int)] w fun e w' => e = .returned (.bool (devC c)) ∧ w = w':=by
 by_cases h1:(97:Int) ≤ (c.toNat:Int)
 ·have h1':decide ((97:Int) ≤ (c.toNat:Int)) = true:=decide_eq_true h1
  have H1:=Lib.hid h1'
  clear h1
  go_enter Tryz.func188,Tryz.ntmps188
  go_wp2_with fail
  refine (digit_any c _).mono ?_
  rintro e w' ⟨rfl,rfl⟩
  generalize hs:digitB c = q1
  have HS:=Lib.hid hs
  clear hs
  cases q1 with
  | true =>
   go_wp2_with fail
   go_ret
   exact ⟨ret_bool' (by unfold devC;rw [HS.out];rfl),rfl⟩
  | false =>
   go_wp2_with fail
   go_ret
   exact ⟨ret_bool' (by unfold devC;rw [HS.out,H1.out];rfl),rfl⟩
 ·have h1':decide ((97:Int) ≤ (c.toNat:Int)) = false:=decide_eq_false h1
  have H1:=Lib.hid h1'
  clear h1
  go_enter Tryz.func188,Tryz.ntmps188
  go_wp2_with fail
  refine (digit_any c _).mono ?_
  rintro e w' ⟨rfl,rfl⟩
  generalize hs:digitB c = q1
  have HS:=Lib.hid hs
  clear hs
  cases q1 with
  | true =>
   go_wp2_with fail
   go_ret
   exact ⟨ret_bool' (by unfold devC;rw [HS.out];rfl),rfl⟩
  | false =>
   go_wp2_with fail
   go_ret
   exact ⟨ret_bool' (by unfold devC;rw [HS.out,H1.out];rfl),rfl⟩
theorem byteAt_eq {s:ByteArray} {i:Nat} (h:i < s.size):byteAt s i = (s[i].toNat:Int):=by
 unfold byteAt
 rw [List.getD_eq_getElem?_getD,List.getElem?_eq_getElem (by simpa using h)]
 rfl
set_option maxHeartbeats 1000000 in
theorem isLabel_any (s:ByteArray) (w:World) (hs:s.size ≤ 1000000000):Calls Tryz.prog 184 #[.string s] w fun e w' => e = .returned (.bool (labelF s)) ∧ w = w':=by
 by_cases h1:1 ≤ s.size ∧ s.size ≤ 30
 ·have h2:(decide ((1:Int) ≤ (s.size:Int)) && decide ((s.size:Int) ≤ 30)) = true:=by simp;omega
  have H2:=Lib.hid h2
  have h0:0 < s.size:=by omega
  have hl1:s.size - 1 < s.size:=by omega
  have hl2:(s.size:Int) - 1 = ((s.size - 1:Nat):Int):=by omega
  have HB0:=Lib.hid (byteAt_eq h0)
  have HB1:=Lib.hid (byteAt_eq hl1)
  have HV:Hid (labelF s = if byteAt s 0 = 45 then false else if byteAt s (s.size - 1) = 45 then false else allB labC s):=by
   show _ = _
   unfold labelF;rw [if_neg (by omega)]
  clear h2 h1
  go_enter Tryz.func184,Tryz.ntmps184
  go_wp2_with fail
  refine (pwithin_any _ _ _ _).mono ?_
  rintro e w' ⟨rfl,rfl⟩
  rw [H2.out]
  by_cases k0:(s[0].toNat:Int) = 45
  ·have k0':((s[0].toNat:Int) != 45) = false:=by simpa using k0
   have hv:=Lib.hid (HV.out.trans (if_pos (HB0.out.trans k0)))
   clear k0
   go_wp2_with fail
   go_ret
   exact ⟨ret_bool' hv.out.symm,rfl⟩
  ·have k0':((s[0].toNat:Int) != 45) = true:=by simpa using k0
   have hv:=Lib.hid (HV.out.trans (if_neg (by rw [HB0.out];exact k0)))
   clear k0
   by_cases k1:(s[s.size - 1].toNat:Int) = 45
   ·have k1':((s[s.size - 1].toNat:Int) != 45) = false:=by simpa using k1
    have hv:=Lib.hid (hv.out.trans (if_pos (HB1.out.trans k1)))
    clear k1
    go_wp2_with fail
    go_ret
    exact ⟨ret_bool' hv.out.symm,rfl⟩
   ·have k1':((s[s.size - 1].toNat:Int) != 45) = true:=by simpa using k1
    have hv:=Lib.hid (hv.out.trans (if_neg (by rw [HB1.out];exact k1)))
    clear k1
    go_wp2_with fail
    refine (all_any 223 labC labC_any (fun _ _ => by kernel_rfl) s _ hs).mono ?_
    rintro e w' ⟨rfl,rfl⟩
    generalize allB labC s = q at hv
    go_wp2_with fail
    go_ret
    exact ⟨ret_bool' hv.out.symm,rfl⟩
 ·have h2:(decide ((1:Int) ≤ (s.size:Int)) && decide ((s.size:Int) ≤ 30)) = false:=by simp;omega
  have H2:=Lib.hid h2
  have hv:Hid (labelF s = false):=by show _ = _;unfold labelF;rw [if_pos h1]
  clear h2 h1
  go_enter Tryz.func184,Tryz.ntmps184
  go_wp2_with fail
  refine (pwithin_any _ _ _ _).mono ?_
  rintro e w' ⟨rfl,rfl⟩
  rw [H2.out]
  go_wp2_with fail
  go_ret
  exact ⟨ret_bool' hv.out.symm,rfl⟩
set_option maxHeartbeats 1000000 in
theorem isMember_any (s:ByteArray) (w:World) (hs:s.size ≤ 1000000000):Calls Tryz.prog 133 #[.string s] w fun e w' => e = .returned (.bool (memberF s)) ∧ w = w':=by
 by_cases h1:4 ≤ s.size ∧ s.size ≤ 20
 ·have h2:(decide ((4:Int) ≤ (s.size:Int)) && decide ((s.size:Int) ≤ 20)) = true:=by simp;omega
  have H2:=Lib.hid h2
  have HV:Hid (memberF s = allB memC s):=by show _ = _;unfold memberF;rw [decide_eq_true h1];rfl
  clear h2 h1
  go_enter Tryz.func133,Tryz.ntmps133
  go_wp2_with fail
  refine (pwithin_any _ _ _ _).mono ?_
  rintro e w' ⟨rfl,rfl⟩
  rw [H2.out]
  go_wp2_with fail
  refine (all_any 186 memC memC_any (fun _ _ => by kernel_rfl) s _ hs).mono ?_
  rintro e w' ⟨rfl,rfl⟩
  generalize allB memC s = q at HV
  go_wp2_with fail
  go_ret
  exact ⟨ret_bool' HV.out.symm,rfl⟩
 ·have h2:(decide ((4:Int) ≤ (s.size:Int)) && decide ((s.size:Int) ≤ 20)) = false:=by simp;omega
  have H2:=Lib.hid h2
  have hv:Hid (memberF s = false):=by show _ = _;unfold memberF;rw [decide_eq_false h1];rfl
  clear h2 h1
  go_enter Tryz.func133,Tryz.ntmps133
  go_wp2_with fail
  refine (pwithin_any _ _ _ _).mono ?_
  rintro e w' ⟨rfl,rfl⟩
  rw [H2.out]
  go_wp2_with fail
  go_ret
  exact ⟨ret_bool' hv.out.symm,rfl⟩
set_option maxHeartbeats 1000000 in
theorem isDevice_any (s:ByteArray) (w:World) (hs:s.size ≤ 1000000000):Calls Tryz.prog 134 #[.string s] w fun e w' => e = .returned (.bool (deviceF s)) ∧ w = w':=by
 by_cases h1:s.size = 32
 ·have h2:((s.size:Int) == 32) = true:=by simp;omega
  have HV:Hid (deviceF s = allB devC s):=by show _ = _;unfold deviceF;rw [decide_eq_true h1];rfl
  clear h1
  go_enter Tryz.func134,Tryz.ntmps134
  go_wp2_with fail
  refine (all_any 188 devC devC_any (fun _ _ => by kernel_rfl) s _ hs).mono ?_
  rintro e w' ⟨rfl,rfl⟩
  generalize allB devC s = q at HV
  go_wp2_with fail
  go_ret
  exact ⟨ret_bool' HV.out.symm,rfl⟩
 ·have h2:((s.size:Int) == 32) = false:=by simp;omega
  have hv:Hid (deviceF s = false):=by show _ = _;unfold deviceF;rw [decide_eq_false h1];rfl
  clear h1
  go_enter Tryz.func134,Tryz.ntmps134
  go_wp2_with fail
  go_ret
  exact ⟨ret_bool' hv.out.symm,rfl⟩
open Go.RowKit
def MLen (H:Frz):Prop:=∃ m:Int,H.cell? ⟨3,0,none⟩ = some (.int .i64 m)
theorem MLen.le {H H':Frz} (h:MLen H) (hl:H.Le H'):MLen H':=by
 obtain ⟨m,h⟩:=h
 exact ⟨m,hl.cell h⟩
theorem cut_any (H:Frz) (hM:MLen H) (s:ByteArray) (w:World) (hH:H.In w) (hs:s.size ≤ 1000000000) :
  Calls Tryz.prog 142 #[.string s,.string ⟨#[64]⟩] w fun e w' => e = .returned (.tuple #[.string (localF s),.string (domainF s),.bool (Lib.cut s.data.toList [64]).2.2]) ∧ Below w.heap.size w w':=by
 obtain ⟨m,hm⟩:=hM
 refine (Tryz.strings_Cut s ⟨#[64]⟩ m w (by omega) (hH.cell hm)).mono ?_
 rintro e w' ⟨rfl,n,rfl⟩
 exact ⟨rfl,below_drewN (Below.refl _ _) n⟩
theorem contains_any (H:Frz) (hM:MLen H) (s p:ByteArray) (w:World) (hH:H.In w) (hs:s.size ≤ 1000000000) :
  Calls Tryz.prog 182 #[.string s,.string p] w fun e w' => e = .returned (.bool (Lib.contains s.data.toList p.data.toList)) ∧ w = w':=by
 obtain ⟨m,hm⟩:=hM
 exact (Tryz.strings_Contains s p m w (by omega) (hH.cell hm)).mono fun e w' ⟨h1,h2⟩ => ⟨h1,h2.symm⟩
theorem contains2_any (H:Frz) (hM:MLen H) (s:ByteArray) (w:World) (hH:H.In w) (hs:s.size ≤ 1000000000) :
  Calls Tryz.prog 182 #[.string s,.string ⟨#[46,46]⟩] w fun e w' => e = .returned (.bool (Lib.contains s.data.toList [46,46])) ∧ w = w':=contains_any H hM s ⟨#[46,46]⟩ w hH hs
theorem labelsF_len (s:ByteArray):(labelsF s).length = Lib.countB s dotB + 1:=by
 unfold labelsF
 exact Lib.splitB_all dotB (by decide) 0 _ s rfl
theorem split_any (H:Frz) (hM:MLen H) (s:ByteArray) (w:World) (hH:H.In w) (hs:s.size ≤ 1000000000) :
  Calls Tryz.prog 143 #[.string s,.string ⟨#[46]⟩] w fun e w' => e = .returned (.slice (some ⟨w.heap.size,0,none⟩) (labelsF s).length (labelsF s).length) ∧ w' = w.alloc (.cells ((labelsF s).map Value.string).toArray 9):=by
 obtain ⟨m,hm⟩:=hM
 refine (Tryz.strings_Split s ⟨#[46]⟩ m w (by omega) (hH.cell hm) (by decide)).mono ?_
 rintro e w' ⟨rfl,rfl⟩
 exact ⟨by rw [labelsF_len];rfl,rfl⟩
theorem sizes_le (s:ByteArray) (h:s.size ≤ 1000000):(localF s).size ≤ 1000000 ∧ (domainF s).size ≤ 1000000:=by
 have hz:s.data.toList.length = s.size:=by simp
 constructor
 ·show (Lib.cut s.data.toList [64]).1.length ≤ _
  unfold Lib.cut
  split
  ·have:=List.length_take_le (Lib.index s.data.toList [64]).toNat s.data.toList
   show (List.take _ _).length ≤ _
   rw [List.length_take];omega
  ·show s.data.toList.length ≤ _;omega
 ·show (Lib.cut s.data.toList [64]).2.1.length ≤ _
  unfold Lib.cut
  split
  ·show (List.drop _ _).length ≤ _
   rw [List.length_drop];omega
  ·show ([]:List UInt8).length ≤ _;simp
theorem all_take_succ {D:Type} {p:D → Bool} {l:List D} {i:Nat} (h:i < l.length) (h0:(l.take i).all p = true) (hp:p l[i] = true):(l.take (i + 1)).all p = true:=by
 rw [List.take_succ_eq_append_getElem h,List.all_append,h0];simp [hp]
theorem all_no {D:Type} {p:D → Bool} {l:List D} {i:Nat} (h:i < l.length) (hp:p l[i] = false):l.all p = false:=by
 rw [← Bool.not_eq_true]
 intro c
 have:=List.all_eq_true.1 c _ (List.getElem_mem h)
 rw [hp] at this;cases this
theorem labels_size (s:ByteArray) (h:s.size ≤ 1000000):∀ x ∈ labelsF s,x.size ≤ 1000000:=by
 have:∀ (k:Nat) (s:ByteArray),s.size ≤ 1000000 → ∀ x ∈ Lib.splitB dotB 0 k s,x.size ≤ 1000000:=by
  intro k
  induction k with
  | zero => intro s h x hx;simp [Lib.splitB] at hx;rw [hx];exact h
  | succ k ih =>
   intro s h x hx
   unfold Lib.splitB at hx
   split at hx
   ·simp at hx;rw [hx];exact h
   ·rcases List.mem_cons.1 hx with hx | hx
    ·rw [hx,ByteArray.size_extract];omega
    ·exact ih _ (by rw [ByteArray.size_extract];omega) x hx
 exact this _ s h
set_option maxHeartbeats 4000000 in
set_option maxRecDepth 100000 in
theorem isMail_any (H:Frz) (hM:MLen H) (s:ByteArray) (w:World) (hH:H.In w) (hs:s.size ≤ 1000000):Calls Tryz.prog 131 #[.string s] w fun e w' => e = .returned (.bool (mailF s)) ∧ Below w.heap.size w w':=by
 obtain ⟨hz1,hz2⟩:=sizes_le s hs
 have HCUT:=Lib.hid (cut_any H hM s w hH (by omega))
 have HCON:=Lib.hid (fun W hW => contains2_any H hM (localF s) W hW (by omega))
 have HSPL:=Lib.hid (fun W hW => split_any H hM (domainF s) W hW (by omega))
 have HH:=Lib.hid hH
 have hV:mailF s = if (Lib.cut s.data.toList [64]).2.2 = false then false else if 80 < s.size then false else if ¬ (1 ≤ (localF s).size ∧ (localF s).size ≤ 64) then false
   else if byteAt (localF s) 0 = 46 then false else if byteAt (localF s) ((localF s).size - 1) = 46 then false else if Lib.contains (localF s).data.toList [46,46] = true then false
   else if allB mailC (localF s) = false then false else if (labelsF (domainF s)).all labelF = false then false else decide (2 ≤ (labelsF (domainF s)).length):=rfl
 have HLS:=Lib.hid (labels_size (domainF s) hz2)
 have HLL:Hid ((labelsF (domainF s)).length ≤ 1000001):=by
  show _ ≤ _
  rw [labelsF_len]
  have h1:=Lib.count_le (domainF s).data.toList dotB.data.toList
  have:(domainF s).data.toList.length = (domainF s).size:=by simp
  have h3:∀ f s,Lib.countFrom dotB.data.toList f s ≤ s.length:=by
   intro f
   induction f with
   | zero => intro s;simp [Lib.countFrom]
   | succ f ih =>
    intro s
    unfold Lib.countFrom
    split
    ·omega
    ·rename_i hne
     have h4:=ih (s.drop ((Lib.index s dotB.data.toList).toNat + dotB.data.toList.length))
     have h5:=Lib.index_ge s dotB.data.toList
     have h6:=Lib.index_room s dotB.data.toList (by
      have h8:¬ Lib.index s dotB.data.toList = -1:=fun c => hne (by rw [c];rfl)
      omega)
     have h7:dotB.data.toList.length = 1:=rfl
     have h9:¬ Lib.index s dotB.data.toList = -1:=fun c => hne (by rw [c];rfl)
     rw [List.length_drop] at h4
     omega
  have h2:Lib.countB (domainF s) dotB ≤ (domainF s).data.toList.length:=h3 _ _
  omega
 generalize (Lib.cut s.data.toList [64]).2.2 = ok at HCUT hV
 generalize hmf:mailF s = mf at hV
 have HMF:=Lib.hid hmf
 generalize localF s = lc at *
 generalize domainF s = dm at *
 have HV:=Lib.hid hV
 clear hV hH hM hmf
 go_enter Tryz.func131,Tryz.ntmps131
 go_wp2_with fail
 refine HCUT.out.mono ?_
 rintro e w1 ⟨rfl,hb⟩
 have HIN:=Lib.hid (HH.out.below hb)
 have HB:=Lib.hid hb
 clear hb HCUT HH
 cases ok with
 | false =>
  have hv:=Lib.hid (HV.out.trans (if_pos rfl))
  go_wp2_with fail
  go_ret
  exact ⟨ret_bool' hv.out.symm,HB.out⟩
 | true =>
  have HV1:=Lib.hid (HV.out.trans (if_neg (by simp)))
  clear HV
  by_cases k2:80 < s.size
  ·have k2':decide ((80:Int) < s.size) = true:=by simp;omega
   have hv:=Lib.hid (HV1.out.trans (if_pos k2))
   clear k2
   go_wp2_with fail
   go_ret
   exact ⟨ret_bool' hv.out.symm,HB.out⟩
  ·have k2':decide ((80:Int) < s.size) = false:=by simp;omega
   have HV2:=Lib.hid (HV1.out.trans (if_neg k2))
   clear k2 HV1
   go_wp2_with fail
   refine (pwithin_any _ _ _ _).mono ?_
   rintro e w' ⟨rfl,rfl⟩
   by_cases k3:1 ≤ lc.size ∧ lc.size ≤ 64
   ·have k3':(decide ((1:Int) ≤ (lc.size:Int)) && decide ((lc.size:Int) ≤ 64)) = true:=by simp;omega
    rw [k3']
    have HV3:=Lib.hid (HV2.out.trans (if_neg (by simpa using k3)))
    have l0:0 < lc.size:=by omega
    have l1:lc.size - 1 < lc.size:=by omega
    have l2:(lc.size:Int) - 1 = ((lc.size - 1:Nat):Int):=by omega
    have HB0:=Lib.hid (byteAt_eq l0)
    have HB1:=Lib.hid (byteAt_eq l1)
    clear k3 k3' HV2
    by_cases k4:(lc[0].toNat:Int) = 46
    ·have k4':((lc[0].toNat:Int) == 46) = true:=by simpa using k4
     have hv:=Lib.hid (HV3.out.trans (if_pos (HB0.out.trans k4)))
     clear k4
     go_wp2_with fail
     go_ret
     exact ⟨ret_bool' hv.out.symm,HB.out⟩
    ·have k4':((lc[0].toNat:Int) == 46) = false:=by simpa using k4
     have HV4:=Lib.hid (HV3.out.trans (if_neg (by rw [HB0.out];exact k4)))
     clear k4 HV3
     by_cases k5:(lc[lc.size - 1].toNat:Int) = 46
     ·have k5':((lc[lc.size - 1].toNat:Int) == 46) = true:=by simpa using k5
      have hv:=Lib.hid (HV4.out.trans (if_pos (HB1.out.trans k5)))
      clear k5
      go_wp2_with fail
      go_ret
      exact ⟨ret_bool' hv.out.symm,HB.out⟩
     ·have k5':((lc[lc.size - 1].toNat:Int) == 46) = false:=by simpa using k5
      have HV5:=Lib.hid (HV4.out.trans (if_neg (by rw [HB1.out];exact k5)))
      clear k5 HV4
      go_wp2_with fail
      refine (HCON.out _ HIN.out).mono ?_
      rintro e w' ⟨rfl,rfl⟩
      generalize Lib.contains lc.data.toList [46,46] = k6 at HV5
      cases k6 with
      | true =>
       have hv:=Lib.hid (HV5.out.trans (if_pos rfl))
       go_wp2_with fail
       go_ret
       exact ⟨ret_bool' hv.out.symm,HB.out⟩
      | false =>
       have HV6:=Lib.hid (HV5.out.trans (if_neg (by simp)))
       clear HV5
       go_wp2_with fail
       refine (all_any 183 mailC mailC_any (fun _ _ => by kernel_rfl) lc _ (by omega)).mono ?_
       rintro e w' ⟨rfl,rfl⟩
       generalize allB mailC lc = k7 at HV6
       cases k7 with
       | false =>
        have hv:=Lib.hid (HV6.out.trans (if_pos rfl))
        go_wp2_with fail
        go_ret
        exact ⟨ret_bool' hv.out.symm,HB.out⟩
       | true =>
        have HV7:=Lib.hid (HV6.out.trans (if_neg (by simp)))
        clear HV6
        go_wp2_with fail
        refine (HSPL.out _ HIN.out).mono ?_
        rintro e w2 ⟨rfl,rfl⟩
        have HB2:=Lib.hid (HB.out.alloc HB.out.size (.cells ((labelsF dm).map Value.string).toArray 9))
        have HCE:Hid (∀ i (h:i < (labelsF dm).length),(w1.alloc (.cells ((labelsF dm).map Value.string).toArray 9)).cell? ⟨w1.heap.size,i,none⟩ = some (.string (labelsF dm)[i])):=fun i h => by
         rw [World.cell?_alloc_new];simp [h]
        have hll:=HLL.out
        clear HSPL HCON HIN HB HLL hz1 hz2
        generalize w1.alloc (.cells ((labelsF dm).map Value.string).toArray 9) = W2 at *
        generalize labelsF dm = lb at *
        go_wp2_with fail
        go_loop [52] (fun t => ∃ i:Nat,i ≤ lb.length ∧ t = .int .i64 i ∧ Hid ((lb.take i).all labelF = true)) (fun t => lb.length - (intOf t).toNat)
        case atStart => exact ⟨0,by omega,rfl,rfl⟩
        case round =>
         obtain ⟨i,hi,rfl,hall⟩:=hrel
         by_cases hlt:i < lb.length
         ·have hc:=HCE.out i hlt
          have hsz:=HLS.out _ (List.getElem_mem hlt)
          have HN:=Lib.hid (all_take_succ (p:=labelF) hlt hall.out)
          have HX:=Lib.hid (all_no (p:=labelF) hlt)
          generalize lb[i] = x at *
          go_wp2_with fail
          refine (isLabel_any x _ (by omega)).mono ?_
          rintro e w' ⟨rfl,rfl⟩
          generalize labelF x = q at HN HX
          cases q with
          | false =>
           have hv:=Lib.hid (HV7.out.trans (if_pos (HX.out rfl)))
           go_wp2_with fail
           go_ret
           exact ⟨ret_bool' hv.out.symm,HB2.out⟩
          | true =>
           have hn2:=Lib.hid (HN.out rfl)
           go_wp2_with fail
           go_round
           case rel => exact ⟨i + 1,by omega,by go_num,hn2⟩
           case measure => simp [intOf];omega
         ·have hall2:lb.all labelF = true:=by have:=hall.out;rwa [List.take_of_length_le (by omega)] at this
          have hv:=Lib.hid (HV7.out.trans (if_neg (by rw [hall2];simp)))
          clear hall2
          have hge:decide ((2:Int) ≤ lb.length) = decide (2 ≤ lb.length):=by congr 1;apply propext;omega
          have HGE:=Lib.hid hge
          clear hge
          go_wp2_with fail
          go_ret
          exact ⟨ret_bool' (by rw [hv.out,← HGE.out]),HB2.out⟩
   ·have k3':(decide ((1:Int) ≤ (lc.size:Int)) && decide ((lc.size:Int) ≤ 64)) = false:=by simp;omega
    rw [k3']
    have hv:=Lib.hid (HV2.out.trans (if_pos k3))
    clear k3 k3'
    go_wp2_with fail
    go_ret
    exact ⟨ret_bool' hv.out.symm,HB.out⟩
theorem extract1_size (s:ByteArray):(s.extract 1 s.size).size ≤ s.size:=by rw [ByteArray.size_extract];omega
set_option maxHeartbeats 1000000 in
theorem isPhone_any (s:ByteArray) (w:World) (hs:s.size ≤ 1000000000):Calls Tryz.prog 132 #[.string s] w fun e w' => e = .returned (.bool (phoneF s)) ∧ w = w':=by
 have hpre:Hid (Calls Tryz.prog 185 #[.string s,.string ⟨#[43]⟩] w fun e w' => e = .returned (.bool (Lib.hasPrefix s.data.toList [43])) ∧ w = w'):=(Tryz.strings_HasPrefix s ⟨#[43]⟩ w).mono fun e w' ⟨h1,h2⟩ => ⟨h1,h2.symm⟩
 have HV:Hid (phoneF s = if Lib.hasPrefix s.data.toList [43] = false then false else if ¬ (8 ≤ s.size ∧ s.size ≤ 16) then false else if allB digitB (s.extract 1 s.size) = false then false else decide (byteAt s 1 ≠ 48)):=rfl
 have hx:=extract1_size s
 generalize Lib.hasPrefix s.data.toList [43] = q at hpre HV
 go_enter Tryz.func132,Tryz.ntmps132
 go_wp2_with fail
 refine hpre.out.mono ?_
 rintro e w' ⟨rfl,rfl⟩
 clear hpre
 cases q with
 | false =>
  have hv:=Lib.hid (HV.out.trans (if_pos rfl))
  go_wp2_with fail
  go_ret
  exact ⟨ret_bool' hv.out.symm,rfl⟩
 | true =>
  have HV1:=Lib.hid (HV.out.trans (if_neg (by simp)))
  clear HV
  go_wp2_with fail
  refine (pwithin_any _ _ _ _).mono ?_
  rintro e w' ⟨rfl,rfl⟩
  by_cases h1:8 ≤ s.size ∧ s.size ≤ 16
  ·rw [show (decide ((8:Int) ≤ (s.size:Int)) && decide ((s.size:Int) ≤ 16)) = true by simp;omega]
   have HV2:=Lib.hid (HV1.out.trans (if_neg (by simpa using h1)))
   have l1:1 < s.size:=by omega
   have l2:(1:Int) ≤ s.size:=by omega
   have HB1:=Lib.hid (byteAt_eq l1)
   clear HV1 h1
   go_wp2_with fail
   refine (all_any 122 digitB digit_any (fun _ _ => by kernel_rfl) _ _ (by omega)).mono ?_
   rintro e w' ⟨rfl,rfl⟩
   generalize allB digitB (s.extract 1 s.size) = q3 at HV2
   cases q3 with
   | false =>
    have hv:=Lib.hid (HV2.out.trans (if_pos rfl))
    go_wp2_with fail
    go_ret
    exact ⟨ret_bool' hv.out.symm,rfl⟩
   | true =>
    have hv:=Lib.hid (HV2.out.trans (if_neg (by simp)))
    clear HV2
    have hne:Hid (decide (byteAt s 1 ≠ 48) = ((s[1].toNat:Int) != 48)):=by
     show _ = _
     rw [HB1.out,Bool.eq_iff_iff];simp
    go_wp2_with fail
    go_ret
    exact ⟨ret_bool' (by rw [hv.out,hne.out]),rfl⟩
  ·rw [show (decide ((8:Int) ≤ (s.size:Int)) && decide ((s.size:Int) ≤ 16)) = false by simp;omega]
   have hv:=Lib.hid (HV1.out.trans (if_pos h1))
   clear h1
   go_wp2_with fail
   go_ret
   exact ⟨ret_bool' hv.out.symm,rfl⟩
end Go.Proofs.YtfmnlpmgakgleaaGreatDoor
