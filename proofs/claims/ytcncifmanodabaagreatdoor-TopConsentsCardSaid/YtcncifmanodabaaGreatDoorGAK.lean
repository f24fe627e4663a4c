/- Texts of this claim, put together: Id, Id2, Id3. -/
import Derived.Test.YtcncifmanodabaaGreatDoorGAD
import Derived.Test.YtcncifmanodabaaGreatDoorShelf
import Derived.Deep.Cut
import Derived.StillTailTactics
import Derived.Lib.SplitLaws
import Derived.Test.YtcncifmanodabaaGreatDoorGAB
import Derived.Test.YtcncifmanodabaaGreatDoorGAC
namespace Go.Proofs.YtcncifmanodabaaGreatDoor
set_option linter.unusedVariables false
open Go.RowKit
theorem capital_any (c:UInt8) (w:World):Calls Tryz.prog 89 #[.int .u8 (c.toNat:Int)] w fun e w' => e = .returned (.bool (capB c)) ∧ w = w':=by
 unfold capB
 generalize (c.toNat:Int) = n
 by_cases h1:65 ≤ n
 ·go_enter Tryz.func89,Tryz.ntmps89
  go_wp2
  go_ret
  exact ⟨by simp [h1],rfl⟩
 ·go_enter Tryz.func89,Tryz.ntmps89
  go_wp2
  go_ret
  exact ⟨by simp;omega,rfl⟩
set_option maxHeartbeats 400000 in
theorem memC_any (c:UInt8) (w:World):Calls Tryz.prog 88 #[.int .u8 (c.toNat:Int)] w fun e w' => e = .returned (.bool (memC c)) ∧ w = w':=by
 go_enter Tryz.func88,Tryz.ntmps88
 go_wp2_with fail
 refine (digit_any c _).mono ?_
 rintro e w' ⟨rfl,rfl⟩
 generalize hs:digitB c = q1
 have HS:=Lib.hid hs
 clear hs
 cases q1 with
 | true =>
  go_wp2_with fail
  go_ret
  exact ⟨ret_bool' (by unfold memC;rw [HS.out];rfl),rfl⟩
 | false =>
  go_wp2_with fail
  refine (capital_any c _).mono ?_
  rintro e w' ⟨rfl,rfl⟩
  generalize hd:capB c = q2
  have HD:=Lib.hid hd
  clear hd
  go_wp2_with fail
  go_ret
  exact ⟨ret_bool' (by unfold memC;rw [HS.out,HD.out];rfl),rfl⟩
set_option maxHeartbeats 400000 in
theorem labC_any (c:UInt8) (w:World):Calls Tryz.prog 130 #[.int .u8 (c.toNat:Int)] w fun e w' => e = .returned (.bool (labC c)) ∧ w = w':=by
 go_enter Tryz.func130,Tryz.ntmps130
 go_wp2_with fail
 refine (small_any c _).mono ?_
 rintro e w' ⟨rfl,rfl⟩
 generalize hs:smallB c = q1
 have HS:=Lib.hid hs
 clear hs
 cases q1 with
 | true =>
  go_wp2_with fail
  go_ret
  exact ⟨ret_bool' (by unfold labC;rw [HS.out];rfl),rfl⟩
 | false =>
  go_wp2_with fail
  refine (digit_any c _).mono ?_
  rintro e w' ⟨rfl,rfl⟩
  generalize hd:digitB c = q2
  have HD:=Lib.hid hd
  clear hd
  cases q2 with
  | true =>
   go_wp2_with fail
   go_ret
   exact ⟨ret_bool' (by unfold labC;rw [HS.out,HD.out];rfl),rfl⟩
  | false =>
   go_wp2_with fail
   go_ret
   exact ⟨ret_bool' (by unfold labC;rw [HS.out,HD.out];rfl),rfl⟩
set_option maxHeartbeats 400000 in
theorem mailC_any (c:UInt8) (w:World):Calls Tryz.prog 85 #[.int .u8 (c.toNat:Int)] w fun e w' => e = .returned (.bool (mailC c)) ∧ w = w':=by
 go_enter Tryz.func85,Tryz.ntmps85
 go_wp2_with fail
 refine (small_any c _).mono ?_
 rintro e w' ⟨rfl,rfl⟩
 generalize hs:smallB c = q1
 have HS:=Lib.hid hs
 clear hs
 cases q1 with
 | true =>
  go_wp2_with fail
  go_ret
  exact ⟨ret_bool' (by unfold mailC;rw [HS.out];rfl),rfl⟩
 | false =>
  go_wp2_with fail
  refine (digit_any c _).mono ?_
  rintro e w' ⟨rfl,rfl⟩
  generalize hd:digitB c = q2
  have HD:=Lib.hid hd
  clear hd
  cases q2 with
  | true =>
   go_wp2_with fail
   go_ret
   exact ⟨ret_bool' (by unfold mailC;rw [HS.out,HD.out];rfl),rfl⟩
  | false =>
   cases h:((c.toNat:Int) == 46) with
   | true =>
    have HN:=Lib.hid h
    go_wp2_with fail
    go_ret
    exact ⟨ret_bool' (by unfold mailC;rw [HS.out,HD.out,HN.out];rfl),rfl⟩
   | false =>
    have HN:=Lib.hid h
    cases h2:((c.toNat:Int) == 45) with
    | true =>
     have HN2:=Lib.hid h2
     go_wp2_with fail
     go_ret
     exact ⟨ret_bool' (by unfold mailC;rw [HS.out,HD.out,HN.out,HN2.out];rfl),rfl⟩
    | false =>
     have HN2:=Lib.hid h2
     go_wp2_with fail
     go_ret
     exact ⟨ret_bool' (by unfold mailC;rw [HS.out,HD.out,HN.out,HN2.out];rfl),rfl⟩
set_option maxHeartbeats 400000 in
theorem devC_any (c:UInt8) (w:World):Calls Tryz.prog 90 #[.int .u8 (c.toNat:Int)] w fun e w' => e = .returned (.bool (devC c)) ∧ w = w':=by
 by_cases h1:(97:Int) ≤ (c.toNat:Int)
 ·have h1':decide ((97:Int) ≤ (c.toNat:Int)) = true:=decide_eq_true h1
  have H1:=Lib.hid h1'
  clear h1
  go_enter Tryz.func90,Tryz.ntmps90
  go_wp2_with fail
  refine (digit_any c _).mono ?_
  rintro e w' ⟨rfl,rfl⟩
  generalize hs:digitB c = q1
  have HS:=Lib.hid hs
  clear hs
  cases q1 with
  | true =>
   go_wp2_with fail
   go_ret
   exact ⟨ret_bool' (by unfold devC;rw [HS.out];rfl),rfl⟩
  | false =>
   go_wp2_with fail
   go_ret
   exact ⟨ret_bool' (by unfold devC;rw [HS.out,H1.out];rfl),rfl⟩
 ·have h1':decide ((97:Int) ≤ (c.toNat:Int)) = false:=decide_eq_false h1
  have H1:=Lib.hid h1'
  clear h1
  go_enter Tryz.func90,Tryz.ntmps90
  go_wp2_with fail
  refine (digit_any c _).mono ?_
  rintro e w' ⟨rfl,rfl⟩
  generalize hs:digitB c = q1
  have HS:=Lib.hid hs
  clear hs
  cases q1 with
  | true =>
   go_wp2_with fail
   go_ret
   exact ⟨ret_bool' (by unfold devC;rw [HS.out];rfl),rfl⟩
  | false =>
   go_wp2_with fail
   go_ret
   exact ⟨ret_bool' (by unfold devC;rw [HS.out,H1.out];rfl),rfl⟩
theorem byteAt_eq {s:ByteArray} {i:Nat} (h:i < s.size):byteAt s i = (s[i].toNat:Int):=by
 unfold byteAt
 rw [List.getD_eq_getElem?_getD,List.getElem?_eq_getElem (by simpa using h)]
 rfl
set_option maxHeartbeats 1000000 in
theorem isLabel_any (s:ByteArray) (w:World) (hs:s.size ≤ 1000000000):Calls Tryz.prog 87 #[.string s] w fun e w' => e = .returned (.bool (labelF s)) ∧ w = w':=by
 by_cases h1:1 ≤ s.size ∧ s.size ≤ 30
 ·have h2:(decide ((1:Int) ≤ (s.size:Int)) && decide ((s.size:Int) ≤ 30)) = true:=by simp;omega
  have H2:=Lib.hid h2
  have h0:0 < s.size:=by omega
  have hl1:s.size - 1 < s.size:=by omega
  have hl2:(s.size:Int) - 1 = ((s.size - 1:Nat):Int):=by omega
  have HB0:=Lib.hid (byteAt_eq h0)
  have HB1:=Lib.hid (byteAt_eq hl1)
  have HV:Hid (labelF s = if byteAt s 0 = 45 then false else if byteAt s (s.size - 1) = 45 then false else allB labC s):=by
   show _ = _
   unfold labelF;rw [if_neg (by omega)]
  clear h2 h1
  go_enter Tryz.func87,Tryz.ntmps87
  go_wp2_with fail
  refine (pwithin_any _ _ _ _).mono ?_
  rintro e w' ⟨rfl,rfl⟩
  rw [H2.out]
  by_cases k0:(s[0].toNat:Int) = 45
  ·have k0':((s[0].toNat:Int) != 45) = false:=by simpa using k0
   have hv:=Lib.hid (HV.out.trans (if_pos (HB0.out.trans k0)))
   clear k0
   go_wp2_with fail
   go_ret
   exact ⟨ret_bool' hv.out.symm,rfl⟩
  ·have k0':((s[0].toNat:Int) != 45) = true:=by simpa using k0
   have hv:=Lib.hid (HV.out.trans (if_neg (by rw [HB0.out];exact k0)))
   clear k0
   by_cases k1:(s[s.size - 1].toNat:Int) = 45
   ·have k1':((s[s.size - 1].toNat:Int) != 45) = false:=by simpa using k1
    have hv:=Lib.hid (hv.out.trans (if_pos (HB1.out.trans k1)))
    clear k1
    go_wp2_with fail
    go_ret
    exact ⟨ret_bool' hv.out.symm,rfl⟩
   ·have k1':((s[s.size - 1].toNat:Int) != 45) = true:=by simpa using k1
    have hv:=Lib.hid (hv.out.trans (if_neg (by rw [HB1.out];exact k1)))
    clear k1
    go_wp2_with fail
    refine (all_any 130 labC labC_any (fun _ _ => by kernel_rfl) s _ hs).mono ?_
    rintro e w' ⟨rfl,rfl⟩
    generalize allB labC s = q at hv
    go_wp2_with fail
    go_ret
    exact ⟨ret_bool' hv.out.symm,rfl⟩
 ·have h2:(decide ((1:Int) ≤ (s.size:Int)) && decide ((s.size:Int) ≤ 30)) = false:=by simp;omega
  have H2:=Lib.hid h2
  have hv:Hid (labelF s = false):=by show _ = _;unfold labelF;rw [if_pos h1]
  clear h2 h1
  go_enter Tryz.func87,Tryz.ntmps87
  go_wp2_with fail
  refine (pwithin_any _ _ _ _).mono ?_
  rintro e w' ⟨rfl,rfl⟩
  rw [H2.out]
  go_wp2_with fail
  go_ret
  exact ⟨ret_bool' hv.out.symm,rfl⟩
set_option maxHeartbeats 1000000 in
theorem isMember_any (s:ByteArray) (w:World) (hs:s.size ≤ 1000000000):Calls Tryz.prog 50 #[.string s] w fun e w' => e = .returned (.bool (memberF s)) ∧ w = w':=by
 by_cases h1:4 ≤ s.size ∧ s.size ≤ 20
 ·have h2:(decide ((4:Int) ≤ (s.size:Int)) && decide ((s.size:Int) ≤ 20)) = true:=by simp;omega
  have H2:=Lib.hid h2
  have HV:Hid (memberF s = allB memC s):=by show _ = _;unfold memberF;rw [decide_eq_true h1];rfl
  clear h2 h1
  go_enter Tryz.func50,Tryz.ntmps50
  go_wp2_with fail
  refine (pwithin_any _ _ _ _).mono ?_
  rintro e w' ⟨rfl,rfl⟩
  rw [H2.out]
  go_wp2_with fail
  refine (all_any 88 memC memC_any (fun _ _ => by kernel_rfl) s _ hs).mono ?_
  rintro e w' ⟨rfl,rfl⟩
  generalize allB memC s = q at HV
  go_wp2_with fail
  go_ret
  exact ⟨ret_bool' HV.out.symm,rfl⟩
 ·have h2:(decide ((4:Int) ≤ (s.size:Int)) && decide ((s.size:Int) ≤ 20)) = false:=by simp;omega
  have H2:=Lib.hid h2
  have hv:Hid (memberF s = false):=by show _ = _;unfold memberF;rw [decide_eq_false h1];rfl
  clear h2 h1
  go_enter Tryz.func50,Tryz.ntmps50
  go_wp2_with fail
  refine (pwithin_any _ _ _ _).mono ?_
  rintro e w' ⟨rfl,rfl⟩
  rw [H2.out]
  go_wp2_with fail
  go_ret
  exact ⟨ret_bool' hv.out.symm,rfl⟩
set_option maxHeartbeats 1000000 in
theorem isDevice_any (s:ByteArray) (w:World) (hs:s.size ≤ 1000000000):Calls Tryz.prog 51 #[.string s] w fun e w' => e = .returned (.bool (deviceF s)) ∧ w = w':=by
 by_cases h1:s.size = 32
 ·have h2:((s.size:Int) == 32) = true:=by simp;omega
  have HV:Hid (deviceF s = allB devC s):=by show _ = _;unfold deviceF;rw [decide_eq_true h1];rfl
  clear h1
  go_enter Tryz.func51,Tryz.ntmps51
  go_wp2_with fail
  refine (all_any 90 devC devC_any (fun _ _ => by kernel_rfl) s _ hs).mono ?_
  rintro e w' ⟨rfl,rfl⟩
  generalize allB devC s = q at HV
  go_wp2_with fail
  go_ret
  exact ⟨ret_bool' HV.out.symm,rfl⟩
 ·have h2:((s.size:Int) == 32) = false:=by simp;omega
  have hv:Hid (deviceF s = false):=by show _ = _;unfold deviceF;rw [decide_eq_false h1];rfl
  clear h1
  go_enter Tryz.func51,Tryz.ntmps51
  go_wp2_with fail
  go_ret
  exact ⟨ret_bool' hv.out.symm,rfl⟩
open Go.RowKit
def MLen (H:Frz):Prop:=∃ m:Int,H.cell? ⟨2,0,none⟩ = some (.int .i64 m)
theorem MLen.le {H H':Frz} (h:MLen H) (hl:H.Le H'):MLen H':=by
 obtain ⟨m,h⟩:=h
 exact ⟨m,hl.cell h⟩
theorem cut_any (H:Frz) (hM:MLen H) (s:ByteArray) (w:World) (hH:H.In w) (hs:s.size ≤ 1000000000) :
  Calls Tryz.prog 83 #[.string s,.string ⟨#[64]⟩] w fun e w' => e = .returned (.tuple #[.string (localF s),.string (domainF s),.bool (Lib.cut s.data.toList [64]).2.2]) ∧ Below w.heap.size w w':=by
 obtain ⟨m,hm⟩:=hM
 refine (Tryz.strings_Cut s ⟨#[64]⟩ m w (by omega) (hH.cell hm)).mono ?_
 rintro e w' ⟨rfl,n,rfl⟩
 exact ⟨rfl,below_drewN (Below.refl _ _) n⟩
theorem contains_any (H:Frz) (hM:MLen H) (s p:ByteArray) (w:World) (hH:H.In w) (hs:s.size ≤ 1000000000) :
  Calls Tryz.prog 84 #[.string s,.string p] w fun e w' => e = .returned (.bool (Lib.contains s.data.toList p.data.toList)) ∧ w = w':=by
 obtain ⟨m,hm⟩:=hM
 exact (Tryz.strings_Contains s p m w (by omega) (hH.cell hm)).mono fun e w' ⟨h1,h2⟩ => ⟨h1,h2.symm⟩
theorem contains2_any (H:Frz) (hM:MLen H) (s:ByteArray) (w:World) (hH:H.In w) (hs:s.size ≤ 1000000000) :
  Calls Tryz.prog 84 #[.string s,.string ⟨#[46,46]⟩] w fun e w' => e = .returned (.bool (Lib.contains s.data.toList [46,46])) ∧ w = w':=contains_any H hM s ⟨#[46,46]⟩ w hH hs
theorem labelsF_len (s:ByteArray):(labelsF s).length = Lib.countB s dotB + 1:=by
 unfold labelsF
 exact Lib.splitB_all dotB (by decide) 0 _ s rfl
theorem split_any (H:Frz) (hM:MLen H) (s:ByteArray) (w:World) (hH:H.In w) (hs:s.size ≤ 1000000000) :
  Calls Tryz.prog 86 #[.string s,.string ⟨#[46]⟩] w fun e w' => e = .returned (.slice (some ⟨w.heap.size,0,none⟩) (labelsF s).length (labelsF s).length) ∧ w' = w.alloc (.cells ((labelsF s).map Value.string).toArray 9):=by
 obtain ⟨m,hm⟩:=hM
 refine (Tryz.strings_Split s ⟨#[46]⟩ m w (by omega) (hH.cell hm) (by decide)).mono ?_
 rintro e w' ⟨rfl,rfl⟩
 exact ⟨by rw [labelsF_len];rfl,rfl⟩
theorem sizes_le (s:ByteArray) (h:s.size ≤ 1000000):(localF s).size ≤ 1000000 ∧ (domainF s).size ≤ 1000000:=by
 have hz:s.data.toList.length = s.size:=by simp
 constructor
 ·show (Lib.cut s.data.toList [64]).1.length ≤ _
  unfold Lib.cut
  split
  ·have:=List.length_take_le (Lib.index s.data.toList [64]).toNat s.data.toList
   show (List.take _ _).length ≤ _
   rw [List.length_take];omega
  ·show s.data.toList.length ≤ _;omega
 ·show (Lib.cut s.data.toList [64]).2.1.length ≤ _
  unfold Lib.cut
  split
  ·show (List.drop _ _).length ≤ _
   rw [List.length_drop];omega
  ·show ([]:List UInt8).length ≤ _;simp
theorem all_take_succ {D:Type} {p:D → Bool} {l:List D} {i:Nat} (h:i < l.length) (h0:(l.take i).all p = true) (hp:p l[i] = true):(l.take (i + 1)).all p = true:=by
 rw [List.take_succ_eq_append_getElem h,List.all_append,h0];simp [hp]
theorem all_no {D:Type} {p:D → Bool} {l:List D} {i:Nat} (h:i < l.length) (hp:p l[i] = false):l.all p = false:=by
 rw [← Bool.not_eq_true]
 intro c
 have:=List.all_eq_true.1 c _ (List.getElem_mem h)
 rw [hp] at this;cases this
theorem labels_size (s:ByteArray) (h:s.size ≤ 1000000):∀ x ∈ labelsF s,x.size ≤ 1000000:=by
 have:∀ (k:Nat) (s:ByteArray),s.size ≤ 1000000 → ∀ x ∈ Lib.splitB dotB 0 k s,x.size ≤ 1000000:=by
  intro k
  induction k with
  | zero => intro s h x hx;simp [Lib.splitB] at hx;rw [hx];exact h
  | succ k ih =>
   intro s h x hx
   unfold Lib.splitB at hx
   split at hx
   ·simp at hx;rw [hx];exact h
   ·rcases List.mem_cons.1 hx with hx | hx
    ·rw [hx,ByteArray.size_extract];omega
    ·exact ih _ (by rw [ByteArray.size_extract];omega) x hx
 exact this _ s h
set_option maxHeartbeats 4000000 in
set_option maxRecDepth 100000 in
theorem isMail_any (H:Frz) (hM:MLen H) (s:ByteArray) (w:World) (hH:H.In w) (hs:s.size ≤ 1000000):Calls Tryz.prog 48 #[.string s] w fun e w' => e = .returned (.bool (mailF s)) ∧ Below w.heap.size w w':=by
 obtain ⟨hz1,hz2⟩:=sizes_le s hs
 have HCUT:=Lib.hid (cut_any H hM s w hH (by omega))
 have HCON:=Lib.hid (fun W hW => contains2_any H hM (localF s) W hW (by omega))
 have HSPL:=Lib.hid (fun W hW => split_any H hM (domainF s) W hW (by omega))
 have HH:=Lib.hid hH
 have hV:mailF s = if (Lib.cut s.data.toList [64]).2.2 = false then false else if 80 < s.size then false else if ¬ (1 ≤ (localF s).size ∧ (localF s).size ≤ 64) then false
   else if byteAt (localF s) 0 = 46 then false else if byteAt (localF s) ((localF s).size - 1) = 46 then false else if Lib.contains (localF s).data.toList [46,46] = true then false
   else if allB mailC (localF s) = false then false else if (labelsF (domainF s)).all labelF = false then false else decide (2 ≤ (labelsF (domainF s)).length):=rfl
 have HLS:=Lib.hid (labels_size (domainF s) hz2)
 have HLL:Hid ((labelsF (domainF s)).length ≤ 1000001):=by
  show _ ≤ _
  rw [labelsF_len]
  have h1:=Lib.count_le (domainF s).data.toList dotB.data.toList
  have:(domainF s).data.toList.length = (domainF s).size:=by simp
  have h3:∀ f s,Lib.countFrom dotB.data.toList f s ≤ s.length:=by
   intro f
   induction f with
   | zero => intro s;simp [Lib.countFrom]
   | succ f ih =>
    intro s
    unfold Lib.countFrom
    split
    ·omega
    ·rename_i hne
     have h4:=ih (s.drop ((Lib.index s dotB.data.toList).toNat + dotB.data.toList.length))
     have h5:=Lib.index_ge s dotB.data.toList
     have h6:=Lib.index_room s dotB.data.toList (by
      have h8:¬ Lib.index s dotB.data.toList = -1:=fun c => hne (by rw [c];rfl)
      omega)
     have h7:dotB.data.toList.length = 1:=rfl
     have h9:¬ Lib.index s dotB.data.toList = -1:=fun c => hne (by rw [c];rfl)
     rw [List.length_drop] at h4
     omega
  have h2:Lib.countB (domainF s) dotB ≤ (domainF s).data.toList.length:=h3 _ _
  omega
 generalize (Lib.cut s.data.toList [64]).2.2 = ok at HCUT hV
 generalize hmf:mailF s = mf at hV
 have HMF:=Lib.hid hmf
 generalize localF s = lc at *
 generalize domainF s = dm at *
 have HV:=Lib.hid hV
 clear hV hH hM hmf
 go_enter Tryz.func48,Tryz.ntmps48
 go_wp2_with fail
 refine HCUT.out.mono ?_
 rintro e w1 ⟨rfl,hb⟩
 have HIN:=Lib.hid (HH.out.below hb)
 have HB:=Lib.hid hb
 clear hb HCUT HH
 cases ok with
 | false =>
  have hv:=Lib.hid (HV.out.trans (if_pos rfl))
  go_wp2_with fail
  go_ret
  exact ⟨ret_bool' hv.out.symm,HB.out⟩
 | true =>
  have HV1:=Lib.hid (HV.out.trans (if_neg (by simp)))
  clear HV
  by_cases k2:80 < s.size
  ·have k2':decide ((80:Int) < s.size) = true:=by simp;omega
   have hv:=Lib.hid (HV1.out.trans (if_pos k2))
   clear k2
   go_wp2_with fail
   go_ret
   exact ⟨ret_bool' hv.out.symm,HB.out⟩
  ·have k2':decide ((80:Int) < s.size) = false:=by simp;omega
   have HV2:=Lib.hid (HV1.out.trans (if_neg k2))
   clear k2 HV1
   go_wp2_with fail
   refine (pwithin_any _ _ _ _).mono ?_
   rintro e w' ⟨rfl,rfl⟩
   by_cases k3:1 ≤ lc.size ∧ lc.size ≤ 64
   ·have k3':(decide ((1:Int) ≤ (lc.size:Int)) && decide ((lc.size:Int) ≤ 64)) = true:=by simp;omega
    rw [k3']
    have HV3:=Lib.hid (HV2.out.trans (if_neg (by simpa using k3)))
    have l0:0 < lc.size:=by omega
    have l1:lc.size - 1 < lc.size:=by omega
    have l2:(lc.size:Int) - 1 = ((lc.size - 1:Nat):Int):=by omega
    have HB0:=Lib.hid (byteAt_eq l0)
    have HB1:=Lib.hid (byteAt_eq l1)
    clear k3 k3' HV2
    by_cases k4:(lc[0].toNat:Int) = 46
    ·have k4':((lc[0].toNat:Int) == 46) = true:=by simpa using k4
     have hv:=Lib.hid (HV3.out.trans (if_pos (HB0.out.trans k4)))
     clear k4
     go_wp2_with fail
     go_ret
     exact ⟨ret_bool' hv.out.symm,HB.out⟩
    ·have k4':((lc[0].toNat:Int) == 46) = false:=by simpa using k4
     have HV4:=Lib.hid (HV3.out.trans (if_neg (by rw [HB0.out];exact k4)))
     clear k4 HV3
     by_cases k5:(lc[lc.size - 1].toNat:Int) = 46
     ·have k5':((lc[lc.size - 1].toNat:Int) == 46) = true:=by simpa using k5
      have hv:=Lib.hid (HV4.out.trans (if_pos (HB1.out.trans k5)))
      clear k5
      go_wp2_with fail
      go_ret
      exact ⟨ret_bool' hv.out.symm,HB.out⟩
     ·have k5':((lc[lc.size - 1].toNat:Int) == 46) = false:=by simpa using k5
      have HV5:=Lib.hid (HV4.out.trans (if_neg (by rw [HB1.out];exact k5)))
      clear k5 HV4
      go_wp2_with fail
      refine (HCON.out _ HIN.out).mono ?_
      rintro e w' ⟨rfl,rfl⟩
      generalize Lib.contains lc.data.toList [46,46] = k6 at HV5
      cases k6 with
      | true =>
       have hv:=Lib.hid (HV5.out.trans (if_pos rfl))
       go_wp2_with fail
       go_ret
       exact ⟨ret_bool' hv.out.symm,HB.out⟩
      | false =>
       have HV6:=Lib.hid (HV5.out.trans (if_neg (by simp)))
       clear HV5
       go_wp2_with fail
       refine (all_any 85 mailC mailC_any (fun _ _ => by kernel_rfl) lc _ (by omega)).mono ?_
       rintro e w' ⟨rfl,rfl⟩
       generalize allB mailC lc = k7 at HV6
       cases k7 with
       | false =>
        have hv:=Lib.hid (HV6.out.trans (if_pos rfl))
        go_wp2_with fail
        go_ret
        exact ⟨ret_bool' hv.out.symm,HB.out⟩
       | true =>
        have HV7:=Lib.hid (HV6.out.trans (if_neg (by simp)))
        clear HV6
        go_wp2_with fail
        refine (HSPL.out _ HIN.out).mono ?_
        rintro e w2 ⟨rfl,rfl⟩
        have HB2:=Lib.hid (HB.out.alloc HB.out.size (.cells ((labelsF dm).map Value.string).toArray 9))
        have HCE:Hid (∀ i (h:i < (labelsF dm).length),(w1.alloc (.cells ((labelsF dm).map Value.string).toArray 9)).cell? ⟨w1.heap.size,i,none⟩ = some (.string (labelsF dm)[i])):=fun i h => by
         rw [World.cell?_alloc_new];simp [h]
        have hll:=HLL.out
        clear HSPL HCON HIN HB HLL hz1 hz2
        generalize w1.alloc (.cells ((labelsF dm).map Value.string).toArray 9) = W2 at *
        generalize labelsF dm = lb at *
        go_wp2_with fail
        go_loop [52] (fun t => ∃ i:Nat,i ≤ lb.length ∧ t = .int .i64 i ∧ Hid ((lb.take i).all labelF = true)) (fun t => lb.length - (intOf t).toNat)
        case atStart => exact ⟨0,by omega,rfl,rfl⟩
        case round =>
         obtain ⟨i,hi,rfl,hall⟩:=hrel
         by_cases hlt:i < lb.length
         ·have hc:=HCE.out i hlt
          have hsz:=HLS.out _ (List.getElem_mem hlt)
          have HN:=Lib.hid (all_take_succ (p:=labelF) hlt hall.out)
          have HX:=Lib.hid (all_no (p:=labelF) hlt)
          generalize lb[i] = x at *
          go_wp2_with fail
          refine (isLabel_any x _ (by omega)).mono ?_
          rintro e w' ⟨rfl,rfl⟩
          generalize labelF x = q at HN HX
          cases q with
          | false =>
           have hv:=Lib.hid (HV7.out.trans (if_pos (HX.out rfl)))
           go_wp2_with fail
           go_ret
           exact ⟨ret_bool' hv.out.symm,HB2.out⟩
          | true =>
           have hn2:=Lib.hid (HN.out rfl)
           go_wp2_with fail
           go_round
           case rel => exact ⟨i + 1,by omega,by go_num,hn2⟩
           case measure => simp [intOf];omega
         ·have hall2:lb.all labelF = true:=by have:=hall.out;rwa [List.take_of_length_le (by omega)] at this
          have hv:=Lib.hid (HV7.out.trans (if_neg (by rw [hall2];simp)))
          clear hall2
          have hge:decide ((2:Int) ≤ lb.length) = decide (2 ≤ lb.length):=by congr 1;apply propext;omega
          have HGE:=Lib.hid hge
          clear hge
          go_wp2_with fail
          go_ret
          exact ⟨ret_bool' (by rw [hv.out,← HGE.out]),HB2.out⟩
   ·have k3':(decide ((1:Int) ≤ (lc.size:Int)) && decide ((lc.size:Int) ≤ 64)) = false:=by simp;omega
    rw [k3']
    have hv:=Lib.hid (HV2.out.trans (if_pos k3))
    clear k3 k3'
    go_wp2_with fail
    go_ret
    exact ⟨ret_bool' hv.out.symm,HB.out⟩
theorem extract1_size (s:ByteArray):(s.extract 1 s.size).size ≤ s.size:=by rw [ByteArray.size_extract];omega
set_option maxHeartbeats 1000000 in
theorem isPhone_any (s:ByteArray) (w:World) (hs:s.size ≤ 1000000000):Calls Tryz.prog 49 #[.string s] w fun e w' => e = .returned (.bool (phoneF s)) ∧ w = w':=by
 have hpre:Hid (Calls Tryz.prog 69 #[.string s,.string ⟨#[43]⟩] w fun e w' => e = .returned (.bool (Lib.hasPrefix s.data.toList [43])) ∧ w = w'):=(Tryz.strings_HasPrefix s ⟨#[43]⟩ w).mono fun e w' ⟨h1,h2⟩ => ⟨h1,h2.symm⟩
 have HV:Hid (phoneF s = if Lib.hasPrefix s.data.toList [43] = false then false else if ¬ (8 ≤ s.size ∧ s.size ≤ 16) then false else if allB digitB (s.extract 1 s.size) = false then false else decide (byteAt s 1 ≠ 48)):=rfl
 have hx:=extract1_size s
 generalize Lib.hasPrefix s.data.toList [43] = q at hpre HV
 go_enter Tryz.func49,Tryz.ntmps49
 go_wp2_with fail
 refine hpre.out.mono ?_
 rintro e w' ⟨rfl,rfl⟩
 clear hpre
 cases q with
 | false =>
  have hv:=Lib.hid (HV.out.trans (if_pos rfl))
  go_wp2_with fail
  go_ret
  exact ⟨ret_bool' hv.out.symm,rfl⟩
 | true =>
  have HV1:=Lib.hid (HV.out.trans (if_neg (by simp)))
  clear HV
  go_wp2_with fail
  refine (pwithin_any _ _ _ _).mono ?_
  rintro e w' ⟨rfl,rfl⟩
  by_cases h1:8 ≤ s.size ∧ s.size ≤ 16
  ·rw [show (decide ((8:Int) ≤ (s.size:Int)) && decide ((s.size:Int) ≤ 16)) = true by simp;omega]
   have HV2:=Lib.hid (HV1.out.trans (if_neg (by simpa using h1)))
   have l1:1 < s.size:=by omega
   have l2:(1:Int) ≤ s.size:=by omega
   have HB1:=Lib.hid (byteAt_eq l1)
   clear HV1 h1
   go_wp2_with fail
   refine (all_any 82 digitB digit_any (fun _ _ => by kernel_rfl) _ _ (by omega)).mono ?_
   rintro e w' ⟨rfl,rfl⟩
   generalize allB digitB (s.extract 1 s.size) = q3 at HV2
   cases q3 with
   | false =>
    have hv:=Lib.hid (HV2.out.trans (if_pos rfl))
    go_wp2_with fail
    go_ret
    exact ⟨ret_bool' hv.out.symm,rfl⟩
   | true =>
    have hv:=Lib.hid (HV2.out.trans (if_neg (by simp)))
    clear HV2
    have hne:Hid (decide (byteAt s 1 ≠ 48) = ((s[1].toNat:Int) != 48)):=by
     show _ = _
     rw [HB1.out,Bool.eq_iff_iff];simp
    go_wp2_with fail
    go_ret
    exact ⟨ret_bool' (by rw [hv.out,hne.out]),rfl⟩
  ·rw [show (decide ((8:Int) ≤ (s.size:Int)) && decide ((s.size:Int) ≤ 16)) = false by simp;omega]
   have hv:=Lib.hid (HV1.out.trans (if_pos h1))
   clear h1
   go_wp2_with fail
   go_ret
   exact ⟨ret_bool' hv.out.symm,rfl⟩
open Go.RowKit
def signsB:ByteArray:=⟨#[48,49,50,51,52,53,54,55,56,57,65,66,67,68,69,70,71,72,73,74,75,76,77,78,79,80,81,82,83,84,85,86,87,88,89,90]⟩
theorem signs_bd:∀ n:Fin 256,memC (UInt8.ofNat n.1) = true → 0 ≤ Lib.indexByte signs (UInt8.ofNat n.1) ∧ Lib.indexByte signs (UInt8.ofNat n.1) ≤ 35:=by decide +kernel
theorem sign_bd {c:UInt8} (h:memC c = true):0 ≤ Lib.indexByte signs c ∧ Lib.indexByte signs c ≤ 35:=by
 have:=signs_bd ⟨c.toNat,c.toNat_lt⟩
 simp only [UInt8.ofNat_toNat] at this
 exact this h
theorem idxSign_any (c:UInt8) (w:World):Calls Tryz.prog 91 #[.string signsB,.int .u8 (c.toNat:Int)] w fun e w' => e = .returned (.int .i64 (Lib.indexByte signs c)) ∧ w = w':=by
 refine (Tryz.strings_IndexByte signsB c.toNat w).mono ?_
 rintro e w' ⟨h1,h2⟩
 refine ⟨?_,h2.symm⟩
 rw [h1]
 have:((c.toNat:Int)).toNat.toUInt8 = c:=by simp
 rw [this];rfl
theorem signSum_succ (l:List UInt8) (n:Nat):signSum l (n + 1) = ((signSum l n).1 + (signSum l n).2 * Lib.indexByte signs (l.getD (l.length - 1 - n) 0) / 36 + (signSum l n).2 * Lib.indexByte signs (l.getD (l.length - 1 - n) 0) % 36,3 - (signSum l n).2):=rfl
theorem signSum_bd {l:List UInt8} (h:∀ c ∈ l,memC c = true):∀ n,n ≤ l.length → 0 ≤ (signSum l n).1 ∧ (signSum l n).1 ≤ 100 * n ∧ ((signSum l n).2 = 1 ∨ (signSum l n).2 = 2):=by
 intro n
 induction n with
 | zero => intro _;exact ⟨by simp [signSum],by simp [signSum],Or.inr rfl⟩
 | succ n ih =>
  intro hn
  obtain ⟨h1,h2,h3⟩:=ih (by omega)
  rw [signSum_succ]
  have hk:l.length - 1 - n < l.length:=by omega
  have hb:=sign_bd (h _ (List.getElem_mem hk))
  rw [List.getD_eq_getElem?_getD,List.getElem?_eq_getElem hk,Option.getD_some]
  generalize Lib.indexByte signs l[l.length - 1 - n] = x at *
  generalize (signSum l n).1 = a at *
  rcases h3 with h3 | h3 <;> rw [h3] <;> refine ⟨?_,?_,?_⟩ <;> simp only [] <;> omega
set_option maxHeartbeats 1000000 in
set_option maxRecDepth 100000 in
theorem checkSign_any (s:ByteArray) (w:World) (hs:s.size ≤ 1000) (hc:∀ c ∈ s.data.toList,memC c = true):Calls Tryz.prog 52 #[.string s] w fun e w' => e = .returned (.int .u8 (signF s)) ∧ w = w':=by
 have HC:=Lib.hid hc
 have hzl:s.data.toList.length = s.size:=by simp
 have HBD:=Lib.hid (signSum_bd hc)
 have HZL:=Lib.hid hzl
 clear hc hzl
 go_enter Tryz.func52,Tryz.ntmps52
 go_wp2_with fail
 go_loop [3,4,5,6] (fun a b t _ => ∃ (n:Nat) (su ti:Int),n ≤ s.size ∧ t = .int .i64 ((s.size:Int) - 1 - n) ∧ a = .int .i64 su ∧ b = .int .i64 ti ∧ Hid (signSum s.data.toList n = (su,ti))) (fun _ _ t _ => (intOf t + 1).toNat)
 case atStart => exact ⟨0,0,2,by omega,by simp,rfl,rfl,rfl⟩
 case round =>
  obtain ⟨n,su,ti,hn,rfl,rfl,rfl,hs2⟩:=hrel
  obtain ⟨b1,b2,b3⟩:=HBD.out n (by rw [HZL.out];exact hn)
  rw [hs2.out] at b1 b2 b3
  simp only at b1 b2 b3
  by_cases hlt:n < s.size
  ·obtain ⟨k,hke⟩:∃ k,k = s.size - 1 - n:=⟨_,rfl⟩
   have hk:k < s.size:=by omega
   have e1:(s.size:Int) - 1 - n = (k:Int):=by omega
   have hmem:s[k] ∈ s.data.toList:=by show s.data[k] ∈ _;simp
   have hb:=sign_bd (HC.out _ hmem)
   have HNX:Hid (signSum s.data.toList (n + 1) = (su + ti * Lib.indexByte signs s[k] / 36 + ti * Lib.indexByte signs s[k] % 36,3 - ti)):=by
    show _ = _
    rw [signSum_succ,hs2.out]
    have:s.data.toList.getD (s.data.toList.length - 1 - n) 0 = s[k]:=by
     rw [List.getD_eq_getElem?_getD,HZL.out,← hke,List.getElem?_eq_getElem (by rw [HZL.out];exact hk)];rfl
    rw [this]
   rw [e1]
   have HK:=Lib.hid hke
   clear e1 hmem hke
   go_wp2_with fail
   refine (idxSign_any s[k] _).mono ?_
   rintro e w' ⟨rfl,rfl⟩
   generalize Lib.indexByte signs s[k] = x at HNX hb
   have hx0:=hb.1
   have hx1:=hb.2
   clear hb
   rcases b3 with rfl | rfl
   all_goals
    go_wp2_with fail
    go_round
    case rel => exact ⟨n + 1,_,_,by omega,by have:=HK.out;congr 1;omega,by congr 1;omega,rfl,HNX⟩
    case measure => have:=HK.out;simp [intOf]
  ·have hie:n = s.size:=by omega
   subst hie
   have e1:(s.size:Int) - 1 - s.size = -1:=by omega
   have m0:0 ≤ su % 36:=by omega
   have m1:su % 36 < 36:=by omega
   obtain ⟨m,hm⟩:∃ m:Nat,(m:Int) = (36 - su % 36) % 36:=⟨((36 - su % 36) % 36).toNat,by omega⟩
   have hm2:m < 36:=by omega
   have HV:Hid (signF s = (signsB[m]'hm2).toNat):=by
    show _ = _
    unfold signF
    rw [hs2.out]
    simp only
    rw [← hm]
    have:signs.getD ((m:Int)).toNat 0 = signsB[m]'hm2:=by
     rw [List.getD_eq_getElem?_getD,Int.toNat_natCast,List.getElem?_eq_getElem (show m < signs.length from hm2)];rfl
    rw [this]
   rw [e1]
   have HM:=Lib.hid hm
   clear e1
   go_wp2_with fail
   go_ret
   have he:(-(su % 36) % 36).toNat = m:=by have:=HM.out;omega
   exact ⟨ret_int (by rw [HV.out];simp only [he];rfl),rfl⟩
theorem memberF_all {s:ByteArray} (h:memberF s = true):(4 ≤ s.size ∧ s.size ≤ 20) ∧ ∀ c ∈ s.data.toList,memC c = true:=by
 unfold memberF at h
 rw [Bool.and_eq_true,decide_eq_true_iff] at h
 exact ⟨h.1,List.all_eq_true.1 h.2⟩
set_option maxHeartbeats 2000000 in
set_option maxRecDepth 100000 in
theorem checkId_any (H:Frz) (hM:MLen H) (kind:Int) (s:ByteArray) (w:World) (hH:H.In w) (hs:s.size ≤ 1000000):Calls Tryz.prog 25 #[.agg #[.int .i64 kind,.string s]] w fun e w' => e = .returned (.int .i64 (idErr kind s)) ∧ Below w.heap.size w w':=by
 have HB:=Lib.hid (new1 (w:=w) (.cells #[.int .i64 kind,.string s] 36))
 have HIN:=Lib.hid (hH.alloc (.cells #[.int .i64 kind,.string s] 36))
 have z0:(w.alloc (.cells #[.int .i64 kind,.string s] 36)).cell? ⟨w.heap.size,0,none⟩ = some (.int .i64 kind):=newc 0 rfl
 have z1:(w.alloc (.cells #[.int .i64 kind,.string s] 36)).cell? ⟨w.heap.size,1,none⟩ = some (.string s):=newc 1 rfl
 have hV:idErr kind s = if kind = 1 then (if mailF s = true then 0 else 3) else if kind = 2 then (if phoneF s = true then 0 else 3)
  else if kind = 3 then (if memberF s = false then 3 else if signF (s.extract 0 (s.size - 1)) ≠ byteAt s (s.size - 1) then 15 else 0)
  else if kind = 4 then (if deviceF s = true then 0 else 3) else 4:=rfl
 by_cases h1:kind = 1
 ·subst h1
  have HV:=Lib.hid (hV.trans (if_pos rfl))
  clear hV
  go_enter Tryz.func25,Tryz.ntmps25
  go_wp2_with fail
  refine (isMail_any H hM s _ HIN.out hs).mono ?_
  rintro e w1 ⟨rfl,hb⟩
  have HB1:=Lib.hid (HB.out.trans (hb.mono HB.out.size))
  have y0:=(hb.cell (World.block_lt_of_cell? _ _ z0)).trans z0
  have y1:=(hb.cell (World.block_lt_of_cell? _ _ z1)).trans z1
  clear hb z0 z1
  generalize mailF s = q at HV
  cases q with
  | false =>
   have hv:=Lib.hid (HV.out.trans (if_neg (by simp)))
   go_wp2_with fail
   go_ret
   exact ⟨ret_int hv.out.symm,HB1.out⟩
  | true =>
   have hv:=Lib.hid (HV.out.trans (if_pos rfl))
   go_wp2_with fail
   go_quiet (fail)
   have HB2:=Lib.hid (below_drewN HB1.out nq)
   go_wp2_with fail
   go_ret
   exact ⟨ret_int hv.out.symm,HB2.out⟩
 ·have hV1:=hV.trans (if_neg h1)
  by_cases h2:kind = 2
  ·subst h2
   have HV:=Lib.hid (hV1.trans (if_pos rfl))
   clear hV hV1 h1
   go_enter Tryz.func25,Tryz.ntmps25
   go_wp2_with fail
   refine (isPhone_any s _ (by omega)).mono ?_
   rintro e w1 ⟨rfl,rfl⟩
   generalize phoneF s = q at HV
   cases q with
   | false =>
    have hv:=Lib.hid (HV.out.trans (if_neg (by simp)))
    go_wp2_with fail
    go_ret
    exact ⟨ret_int hv.out.symm,HB.out⟩
   | true =>
    have hv:=Lib.hid (HV.out.trans (if_pos rfl))
    go_wp2_with fail
    go_quiet (fail)
    have HB2:=Lib.hid (below_drewN HB.out nq)
    go_wp2_with fail
    go_ret
    exact ⟨ret_int hv.out.symm,HB2.out⟩
  ·have hV2:=hV1.trans (if_neg h2)
   by_cases h3:kind = 3
   ·subst h3
    have HV:=Lib.hid (hV2.trans (if_pos rfl))
    clear hV hV1 hV2 h1 h2
    go_enter Tryz.func25,Tryz.ntmps25
    go_wp2_with fail
    refine (isMember_any s _ (by omega)).mono ?_
    rintro e w1 ⟨rfl,rfl⟩
    have HMA:=Lib.hid (memberF_all (s:=s))
    generalize memberF s = q at HV HMA
    cases q with
    | false =>
     have hv:=Lib.hid (HV.out.trans (if_pos rfl))
     go_wp2_with fail
     go_ret
     exact ⟨ret_int hv.out.symm,HB.out⟩
    | true =>
     have HV1:=Lib.hid (HV.out.trans (if_neg (by simp)))
     obtain ⟨⟨m4,m20⟩,hmem⟩:=HMA.out rfl
     have hl1:s.size - 1 < s.size:=by omega
     have l2:(s.size:Int) - 1 = ((s.size - 1:Nat):Int):=by omega
     have HBA:=Lib.hid (byteAt_eq hl1)
     have hcs:Hid (∀ W,Calls Tryz.prog 52 #[.string (s.extract 0 (s.size - 1))] W fun e w' => e = .returned (.int .u8 (signF (s.extract 0 (s.size - 1)))) ∧ Below W.heap.size W w'):=fun W => same_below (checkSign_any (s.extract 0 (s.size - 1)) W (by rw [ByteArray.size_extract];omega) (fun c hc => hmem c (by
      rw [Lib.extract_data] at hc
      exact List.mem_of_mem_drop (List.mem_of_mem_take hc) )))
     clear HV HMA hmem
     go_upto_region 15 with (fail)
     generalize w.alloc (.cells #[.int .i64 3,.string s] 36) = W1 at *
     have K0:=lift_cell z0
     have K1:=lift_cell z1
     clear z0 z1
     (refine wp_region_det 14 48 (fun W => Below (W1).heap.size (W1) W) (by kernel_rfl) (by kernel_rfl) (by rfl) (Below.refl _ _).drew ?_;simp only [List.take_succ_cons,List.take_zero,List.drop_succ_cons,List.drop_zero])
     iterate 4 (refine detSeq_op rfl ?_ (fun W hW => ?_) ?_;rotate_left;(focus simp only [OpV];go_simp;first | exact rfl | exact ⟨rfl,hW⟩))
     iterate 4 (refine detSeq_yes (by kernel_rfl) ?_ (fun W hW => ?_) ?_;rotate_left;(focus simp only [OpV];go_simp;first | exact rfl | exact ⟨rfl,hW⟩))
     (refine detSeq_yes (by kernel_rfl) ?_ (fun W hW => ?_) ?_;rotate_left;focus (simp only [OpV];go_simp;refine (hcs.out W).mono ?_;rintro e w' ⟨rfl,hb⟩;refine ⟨_,rfl,?_,det_back hW hb⟩;exact rfl))
     iterate 5 (refine detSeq_yes (by kernel_rfl) ?_ (fun W hW => ?_) ?_;rotate_left;(focus simp only [OpV];go_simp;first | exact rfl | exact ⟨rfl,hW⟩))
     refine detSeq_nil (fun W3 hW3 => ?_)
     have HB3:=Lib.hid (HB.out.trans (hW3.mono HB.out.size))
     clear K0 K1 hW3
     generalize signF (s.extract 0 (s.size - 1)) = sg at HV1 ⊢
     rw [HBA.out] at HV1
     by_cases hs9:sg = (s[s.size - 1].toNat:Int)
     ·have hv:=Lib.hid (HV1.out.trans (if_neg (by simpa using hs9)))
      have k1:(sg != (s[s.size - 1].toNat:Int)) = false:=by simpa using hs9
      clear hs9
      go_wp2_with fail
      go_ret
      exact ⟨ret_int hv.out.symm,HB3.out⟩
     ·have hv:=Lib.hid (HV1.out.trans (if_pos hs9))
      have k1:(sg != (s[s.size - 1].toNat:Int)) = true:=by simpa using hs9
      clear hs9
      go_wp2_with fail
      go_ret
      exact ⟨ret_int hv.out.symm,HB3.out⟩
   ·have hV3:=hV2.trans (if_neg h3)
    by_cases h4:kind = 4
    ·subst h4
     have HV:=Lib.hid (hV3.trans (if_pos rfl))
     clear hV hV1 hV2 hV3 h1 h2 h3
     go_enter Tryz.func25,Tryz.ntmps25
     go_wp2_with fail
     refine (isDevice_any s _ (by omega)).mono ?_
     rintro e w1 ⟨rfl,rfl⟩
     generalize deviceF s = q at HV
     cases q with
     | false =>
      have hv:=Lib.hid (HV.out.trans (if_neg (by simp)))
      go_wp2_with fail
      go_ret
      exact ⟨ret_int hv.out.symm,HB.out⟩
     | true =>
      have hv:=Lib.hid (HV.out.trans (if_pos rfl))
      go_wp2_with fail
      go_quiet (fail)
      have HB2:=Lib.hid (below_drewN HB.out nq)
      go_wp2_with fail
      go_ret
      exact ⟨ret_int hv.out.symm,HB2.out⟩
    ·have hv:=Lib.hid (hV3.trans (if_neg h4))
     have k1:(kind == 1) = false:=by simpa using h1
     have k2:(kind == 2) = false:=by simpa using h2
     have k3:(kind == 3) = false:=by simpa using h3
     have k4:(kind == 4) = false:=by simpa using h4
     clear hV hV1 hV2 hV3 h1 h2 h3 h4
     go_enter Tryz.func25,Tryz.ntmps25
     go_wp2_with fail
     go_ret
     exact ⟨ret_int hv.out.symm,HB.out⟩
end Go.Proofs.YtcncifmanodabaaGreatDoor
