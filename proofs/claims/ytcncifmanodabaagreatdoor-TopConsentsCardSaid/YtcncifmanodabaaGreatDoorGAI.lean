/- Texts of this claim, put together: Grown, SortSta, DetE. -/
import Derived.Test.YtcncifmanodabaaGreatDoorGAD
import Derived.IntWalk
import Derived.StillTailTactics
import Derived.Deep.Cut
import Derived.Test.YtcncifmanodabaaGreatDoorGAC
namespace Go.Proofs.YtcncifmanodabaaGreatDoor
set_option linter.unusedVariables false
open Go.RowKit
theorem grown_below {a b c:World} {g:Nat} (h:a.grownBy b (some g)) (hb:Below b.heap.size b c):a.grownBy c (some g) :=
 ⟨hb.os.trans h.os,hb.tape.trans h.tape,hb.output.trans h.output,Nat.le_trans h.size hb.size,fun k hk hne => (hb.block k (Nat.lt_of_lt_of_le hk h.size)).trans (h.block k hk hne)⟩
theorem grown_drew {a b:World} {row:Option Nat} (h:a.grownBy b row):a.grownBy b.drew row:=⟨h.os,h.tape,h.output,h.size,h.block⟩
theorem grown_drewN' {a b:World} {row:Option Nat} (h:a.grownBy b row) (n:Nat):a.grownBy (b.drewN n) row:=⟨h.os,h.tape,h.output,h.size,h.block⟩
open Go.RowKit
section
variable {D:Type}
def CmpK_Sta (H:Frz) (f:D → Nat → Value) (kf:Nat) (caps:List Value) (c:D → D → Int) (ds:List D):Prop :=
 ∀ (W:World) (a b:D),H.In W → a ∈ ds → b ∈ ds → Calls Tryz.prog kf ((.agg #[f a 0,f a 1,f a 2,f a 3,f a 4,f a 5,f a 6,f a 7]:Value) :: (.agg #[f b 0,f b 1,f b 2,f b 3,f b 4,f b 5,f b 6,f b 7]:Value) :: caps).toArray W fun e W' => e = .returned (.int .i64 (c a b)) ∧ Below W.heap.size W W'
def SW_Sta (H:Frz) (g T k:Nat) (f:D → Nat → Value) (rest:List Value) (w:World) (ys:List D) (wr:World):Prop:=KBlk wr g T k f ys rest ∧ w.grownBy wr (some g) ∧ H.In wr
theorem SW_mk_Sta {H:Frz} {g T k:Nat} {f:D → Nat → Value} {rest:List Value} {w:World} {ys:List D} {W:World} (h1:KBlk W g T k f ys rest) (h2:w.grownBy W (some g)) (h3:H.In W):Hid (SW_Sta H g T k f rest w ys W.drew):=⟨h1,grown_drew h2,h3⟩
set_option maxHeartbeats 4000000 in
set_option maxRecDepth 100000 in
theorem insort_Sta (H:Frz) (f:D → Nat → Value) (kf:Nat) (caps:List Value) (c:D → D → Int) (ds:List D) (hf1:∀ d ∈ ds,∀ m,(f d m).oneCell' = true) (hcmp:CmpK_Sta H f kf caps c ds) (hcall:∀ (a b:Value) (W:World),(callFunc kf (a :: b :: caps).toArray).run Tryz.prog W = .ok (.enter kf (a :: b :: caps).toArray) W) (g n cap:Nat) (rest:List Value) (w:World)
  (hn:ds.length = n) (hcap:n ≤ cap) (hn12:n ≤ 1000) (hH:H.In w) (hg:H g = none) (hB:KBlk w g 53 8 f ds rest) :
  Calls Tryz.prog 159 #[.slice (some ⟨g,0,none⟩) n cap,.int .i64 0,.int .i64 n,.func (.func kf) #[] caps.toArray] w fun e w' =>
   e = .returned (.tuple #[]) ∧ SW_Sta H g 53 8 f rest w (isort (fun a b => decide (c a b < 0)) ds) w':=by
 have HC:=Lib.hid hcmp
 have HN:=Lib.hid hn
 have J0:Hid (SW_Sta H g 53 8 f rest w ds w):=⟨hB,World.grownBy.refl _ _,hH⟩
 have HF1:=Lib.hid hf1
 clear hcmp hH hB hn hf1
 go_enter Tryz.func159,Tryz.ntmps159
 go_wp2_with fail
 go_loopw [8] (fun t wr => ∃ (i:Nat) (ys:List D),1 ≤ i ∧ (i ≤ n ∨ n = 0 ∧ i = 1) ∧ t = .int .i64 i ∧ Hid (ys = isort (fun a b => decide (c a b < 0)) (ds.take i) ++ ds.drop i) ∧ Hid (SW_Sta H g 53 8 f rest w ys wr)) (fun t _ => n + 1 - (intOf t).toNat)
 case atStart =>
  refine ⟨1,ds,by omega,by omega,rfl,?_,J0⟩
  show ds = _
  cases ds with
  | nil => rfl
  | cons d ds => simp [isort,insLast]
 case round =>
  obtain ⟨i,ys,hi1,hi2,rfl,hys,J⟩:=hrel
  by_cases hlt:i < n
  ·have hil:i < ds.length:=by rw [HN.out];exact hlt
   have hdr:=List.drop_eq_getElem_cons hil
   have hx:Hid (∀ d,d ∈ isort (fun a b => decide (c a b < 0)) (ds.take i) → d ∈ ds):=fun d hd => List.mem_of_mem_take ((isort_perm _ _).mem_iff.1 hd)
   have hxm:=Lib.hid (List.getElem_mem hil)
   have hR:Hid (∀ d,d ∈ ds.drop (i + 1) → d ∈ ds):=fun d hd => List.mem_of_mem_drop hd
   have hacl:(isort (fun a b => decide (c a b < 0)) (ds.take i)).length = i:=by rw [isort_length,List.length_take];omega
   have hRl:(ds.drop (i + 1)).length = n - (i + 1):=by rw [List.length_drop,HN.out]
   have hstep:Hid (isort (fun a b => decide (c a b < 0)) (ds.take (i + 1)) = insLast (fun a b => decide (c a b < 0)) ds[i] (isort (fun a b => decide (c a b < 0)) (ds.take i))):=by
    show _ = _
    rw [List.take_succ_eq_append_getElem hil,isort_snoc]
   have hys2:=hys.out
   rw [hdr] at hys2
   generalize isort (fun a b => decide (c a b < 0)) (ds.take i) = acc at hx hacl hstep hys2
   generalize hR':ds.drop (i + 1) = R at hR hRl hys2
   have HRR:=Lib.hid hR'
   generalize ds[i] = x at hxm hstep hys2
   have S0:Hid (SIn (fun a b => decide (c a b < 0)) acc x R i ys):=by
    have:=SIn.start (lt:=fun a b => decide (c a b < 0)) acc R x
    rw [hacl,← hys2] at this
    exact this
   have HACL:=Lib.hid hacl
   have HRL:=Lib.hid hRl
   clear hdr hys hys2 hR' hacl hRl J0
   obtain ⟨wo,rfl⟩:∃ wo:World,wo = wr:=⟨_,rfl⟩
   go_wp2_with fail
   go_loopw [9] (fun t wi => ∃ (j:Nat) (zs:List D),j ≤ i ∧ t = .int .i64 j ∧ Hid (SIn (fun a b => decide (c a b < 0)) acc x R j zs) ∧ Hid (SW_Sta H g 53 8 f rest w zs wi)) (fun t _ => (intOf t).toNat)
   case atStart => exact ⟨i,ys,by omega,rfl,S0,J⟩
   case round =>
    obtain ⟨j,zs,hj,rfl,SI,Ji⟩:=hrel
    clear S0 J
    have hzl:zs.length = n:=by have:=SI.out.length.1;rw [HACL.out,HRL.out] at this;omega
    by_cases hj0:0 < j
    ·have hjn:j < zs.length:=by omega
     have hj1n:j - 1 < zs.length:=by omega
     have hzj:zs[j] = x:=SI.out.at_ hjn
     have cj0:wr.cell? ⟨g,j * 8,none⟩ = some (f zs[j] 0):=Ji.out.1.cell (j) 0 (hjn) (by omega)
     have cj1:wr.cell? ⟨g,j * 8 + 1,none⟩ = some (f zs[j] 1):=Ji.out.1.cell (j) 1 (hjn) (by omega)
     have cj2:wr.cell? ⟨g,j * 8 + 2,none⟩ = some (f zs[j] 2):=Ji.out.1.cell (j) 2 (hjn) (by omega)
     have cj3:wr.cell? ⟨g,j * 8 + 3,none⟩ = some (f zs[j] 3):=Ji.out.1.cell (j) 3 (hjn) (by omega)
     have cj4:wr.cell? ⟨g,j * 8 + 4,none⟩ = some (f zs[j] 4):=Ji.out.1.cell (j) 4 (hjn) (by omega)
     have cj5:wr.cell? ⟨g,j * 8 + 5,none⟩ = some (f zs[j] 5):=Ji.out.1.cell (j) 5 (hjn) (by omega)
     have cj6:wr.cell? ⟨g,j * 8 + 6,none⟩ = some (f zs[j] 6):=Ji.out.1.cell (j) 6 (hjn) (by omega)
     have cj7:wr.cell? ⟨g,j * 8 + 7,none⟩ = some (f zs[j] 7):=Ji.out.1.cell (j) 7 (hjn) (by omega)
     have dj0:wr.cell? ⟨g,(j - 1) * 8,none⟩ = some (f zs[j - 1] 0):=Ji.out.1.cell (j - 1) 0 (hj1n) (by omega)
     have dj1:wr.cell? ⟨g,(j - 1) * 8 + 1,none⟩ = some (f zs[j - 1] 1):=Ji.out.1.cell (j - 1) 1 (hj1n) (by omega)
     have dj2:wr.cell? ⟨g,(j - 1) * 8 + 2,none⟩ = some (f zs[j - 1] 2):=Ji.out.1.cell (j - 1) 2 (hj1n) (by omega)
     have dj3:wr.cell? ⟨g,(j - 1) * 8 + 3,none⟩ = some (f zs[j - 1] 3):=Ji.out.1.cell (j - 1) 3 (hj1n) (by omega)
     have dj4:wr.cell? ⟨g,(j - 1) * 8 + 4,none⟩ = some (f zs[j - 1] 4):=Ji.out.1.cell (j - 1) 4 (hj1n) (by omega)
     have dj5:wr.cell? ⟨g,(j - 1) * 8 + 5,none⟩ = some (f zs[j - 1] 5):=Ji.out.1.cell (j - 1) 5 (hj1n) (by omega)
     have dj6:wr.cell? ⟨g,(j - 1) * 8 + 6,none⟩ = some (f zs[j - 1] 6):=Ji.out.1.cell (j - 1) 6 (hj1n) (by omega)
     have dj7:wr.cell? ⟨g,(j - 1) * 8 + 7,none⟩ = some (f zs[j - 1] 7):=Ji.out.1.cell (j - 1) 7 (hj1n) (by omega)
     rw [hzj] at cj0 cj1 cj2 cj3 cj4 cj5 cj6 cj7
     have hmy:Hid (zs[j - 1] ∈ ds):=by
      rcases SI.out.mem (List.getElem_mem hj1n) with h | h | h
      ·exact hx.out _ h
      ·show _ ∈ _;rw [h];exact hxm.out
      ·exact hR.out _ h
     have hsw:=Lib.hid (fun h => SI.out.swap hj0 hjn h)
     have hdn:=Lib.hid (fun (h:(fun a b => decide (c a b < 0)) x zs[j - 1] = false) => SI.out.done SI.out.length.1 (fun _ => h))
     generalize hyy:zs[j - 1] = y at dj0 dj1 dj2 dj3 dj4 dj5 dj6 dj7 hmy hsw hdn
     have HYY:Hid (∀ h:j - 1 < zs.length,zs[j - 1]'h = y):=fun _ => hyy
     have e1:((j:Int) - 1).toNat = j - 1:=by omega
     have e2:IntKind.i64.wrap ((j:Int) - 1) = (j:Int) - 1:=IntWalk.i64_in _ (by omega)
     have e3:(0:Int) ≤ (j:Int) - 1:=by omega
     have e4:(j:Int) - 1 < n:=by omega
     have e5:(j:Int) < n:=by omega
     have e6:1 ≤ j:=by omega
     have e7:(1:Int) ≤ (j:Int):=by omega
     have e8:(j:Int) ≤ n:=by omega
     have e9:j ≤ n:=by omega
     have e10:(0:Int) < (j:Int):=by omega
     have HZL:=Lib.hid hzl
     clear hyy hzj hzl hjn hj1n
     go_wp2_with fail
     go_still_tail 14,(by kernel_rfl)
     change wpList _ _ _ _ _ wr.drew
     clear e1 e2
     go_wp2_with fail
     refine (HC.out wr.drew x y Ji.out.2.2 hxm.out hmy.out).mono ?_
     rintro e w1 ⟨rfl,hb1⟩
     have hb:Below wr.heap.size wr w1:=(Below.refl _ wr).drew.trans hb1
     have Z3:=Ji.out.1.keep hb
     have Z4:=Lib.hid (grown_below Ji.out.2.1 hb)
     have Z5:=Lib.hid (Ji.out.2.2.below hb)
     have hjn:j < zs.length:=by rw [HZL.out];omega
     clear cj0 dj0 cj1 dj1 cj2 dj2 cj3 dj3 cj4 dj4 cj5 dj5 cj6 dj6 cj7 dj7
     have hj1n:j - 1 < zs.length:=by rw [HZL.out];omega
     have hzj:zs[j] = x:=SI.out.at_ hjn
     have cj0:w1.cell? ⟨g,j * 8,none⟩ = some (f zs[j] 0):=Z3.cell (j) 0 (hjn) (by omega)
     have cj1:w1.cell? ⟨g,j * 8 + 1,none⟩ = some (f zs[j] 1):=Z3.cell (j) 1 (hjn) (by omega)
     have cj2:w1.cell? ⟨g,j * 8 + 2,none⟩ = some (f zs[j] 2):=Z3.cell (j) 2 (hjn) (by omega)
     have cj3:w1.cell? ⟨g,j * 8 + 3,none⟩ = some (f zs[j] 3):=Z3.cell (j) 3 (hjn) (by omega)
     have cj4:w1.cell? ⟨g,j * 8 + 4,none⟩ = some (f zs[j] 4):=Z3.cell (j) 4 (hjn) (by omega)
     have cj5:w1.cell? ⟨g,j * 8 + 5,none⟩ = some (f zs[j] 5):=Z3.cell (j) 5 (hjn) (by omega)
     have cj6:w1.cell? ⟨g,j * 8 + 6,none⟩ = some (f zs[j] 6):=Z3.cell (j) 6 (hjn) (by omega)
     have cj7:w1.cell? ⟨g,j * 8 + 7,none⟩ = some (f zs[j] 7):=Z3.cell (j) 7 (hjn) (by omega)
     have dj0:w1.cell? ⟨g,(j - 1) * 8,none⟩ = some (f zs[j - 1] 0):=Z3.cell (j - 1) 0 (hj1n) (by omega)
     have dj1:w1.cell? ⟨g,(j - 1) * 8 + 1,none⟩ = some (f zs[j - 1] 1):=Z3.cell (j - 1) 1 (hj1n) (by omega)
     have dj2:w1.cell? ⟨g,(j - 1) * 8 + 2,none⟩ = some (f zs[j - 1] 2):=Z3.cell (j - 1) 2 (hj1n) (by omega)
     have dj3:w1.cell? ⟨g,(j - 1) * 8 + 3,none⟩ = some (f zs[j - 1] 3):=Z3.cell (j - 1) 3 (hj1n) (by omega)
     have dj4:w1.cell? ⟨g,(j - 1) * 8 + 4,none⟩ = some (f zs[j - 1] 4):=Z3.cell (j - 1) 4 (hj1n) (by omega)
     have dj5:w1.cell? ⟨g,(j - 1) * 8 + 5,none⟩ = some (f zs[j - 1] 5):=Z3.cell (j - 1) 5 (hj1n) (by omega)
     have dj6:w1.cell? ⟨g,(j - 1) * 8 + 6,none⟩ = some (f zs[j - 1] 6):=Z3.cell (j - 1) 6 (hj1n) (by omega)
     have dj7:w1.cell? ⟨g,(j - 1) * 8 + 7,none⟩ = some (f zs[j - 1] 7):=Z3.cell (j - 1) 7 (hj1n) (by omega)
     have fj0:=Z3.frozen (j * 8)
     have fj1:=Z3.frozen (j * 8 + 1)
     have fj2:=Z3.frozen (j * 8 + 2)
     have fj3:=Z3.frozen (j * 8 + 3)
     have fj4:=Z3.frozen (j * 8 + 4)
     have fj5:=Z3.frozen (j * 8 + 5)
     have fj6:=Z3.frozen (j * 8 + 6)
     have fj7:=Z3.frozen (j * 8 + 7)
     have gj0:=Z3.frozen ((j - 1) * 8)
     have gj1:=Z3.frozen ((j - 1) * 8 + 1)
     have gj2:=Z3.frozen ((j - 1) * 8 + 2)
     have gj3:=Z3.frozen ((j - 1) * 8 + 3)
     have gj4:=Z3.frozen ((j - 1) * 8 + 4)
     have gj5:=Z3.frozen ((j - 1) * 8 + 5)
     have gj6:=Z3.frozen ((j - 1) * 8 + 6)
     have gj7:=Z3.frozen ((j - 1) * 8 + 7)
     rw [hzj] at cj0 cj1 cj2 cj3 cj4 cj5 cj6 cj7
     rw [HYY.out hj1n] at dj0 dj1 dj2 dj3 dj4 dj5 dj6 dj7
     have ZP:=Lib.hid ((Z3.put j hjn y).put (j - 1) (by simp;omega) x)
     have Z3h:=Lib.hid Z3
     clear Z3 hb hb1 Ji hjn hj1n hzj HYY
     by_cases hr:c x y < 0
     ·have JS:=Lib.hid (hsw.out (by simpa using hr))
      have na0:¬ j * 8 = (j - 1) * 8:=by omega
      have nb0:¬ (j - 1) * 8 = j * 8:=by omega
      have na1:¬ j * 8 = (j - 1) * 8 + 1:=by omega
      have nb1:¬ (j - 1) * 8 + 1 = j * 8:=by omega
      have na2:¬ j * 8 = (j - 1) * 8 + 2:=by omega
      have nb2:¬ (j - 1) * 8 + 2 = j * 8:=by omega
      have na3:¬ j * 8 = (j - 1) * 8 + 3:=by omega
      have nb3:¬ (j - 1) * 8 + 3 = j * 8:=by omega
      have na4:¬ j * 8 = (j - 1) * 8 + 4:=by omega
      have nb4:¬ (j - 1) * 8 + 4 = j * 8:=by omega
      have na5:¬ j * 8 = (j - 1) * 8 + 5:=by omega
      have nb5:¬ (j - 1) * 8 + 5 = j * 8:=by omega
      have na6:¬ j * 8 = (j - 1) * 8 + 6:=by omega
      have nb6:¬ (j - 1) * 8 + 6 = j * 8:=by omega
      have na7:¬ j * 8 = (j - 1) * 8 + 7:=by omega
      have nb7:¬ (j - 1) * 8 + 7 = j * 8:=by omega
      have na8:¬ j * 8 + 1 = (j - 1) * 8:=by omega
      have nb8:¬ (j - 1) * 8 = j * 8 + 1:=by omega
      have na9:¬ j * 8 + 1 = (j - 1) * 8 + 1:=by omega
      have nb9:¬ (j - 1) * 8 + 1 = j * 8 + 1:=by omega
      have na10:¬ j * 8 + 1 = (j - 1) * 8 + 2:=by omega
      have nb10:¬ (j - 1) * 8 + 2 = j * 8 + 1:=by omega
      have na11:¬ j * 8 + 1 = (j - 1) * 8 + 3:=by omega
      have nb11:¬ (j - 1) * 8 + 3 = j * 8 + 1:=by omega
      have na12:¬ j * 8 + 1 = (j - 1) * 8 + 4:=by omega
      have nb12:¬ (j - 1) * 8 + 4 = j * 8 + 1:=by omega
      have na13:¬ j * 8 + 1 = (j - 1) * 8 + 5:=by omega
      have nb13:¬ (j - 1) * 8 + 5 = j * 8 + 1:=by omega
      have na14:¬ j * 8 + 1 = (j - 1) * 8 + 6:=by omega
      have nb14:¬ (j - 1) * 8 + 6 = j * 8 + 1:=by omega
      have na15:¬ j * 8 + 1 = (j - 1) * 8 + 7:=by omega
      have nb15:¬ (j - 1) * 8 + 7 = j * 8 + 1:=by omega
      have na16:¬ j * 8 + 2 = (j - 1) * 8:=by omega
      have nb16:¬ (j - 1) * 8 = j * 8 + 2:=by omega
      have na17:¬ j * 8 + 2 = (j - 1) * 8 + 1:=by omega
      have nb17:¬ (j - 1) * 8 + 1 = j * 8 + 2:=by omega
      have na18:¬ j * 8 + 2 = (j - 1) * 8 + 2:=by omega
      have nb18:¬ (j - 1) * 8 + 2 = j * 8 + 2:=by omega
      have na19:¬ j * 8 + 2 = (j - 1) * 8 + 3:=by omega
      have nb19:¬ (j - 1) * 8 + 3 = j * 8 + 2:=by omega
      have na20:¬ j * 8 + 2 = (j - 1) * 8 + 4:=by omega
      have nb20:¬ (j - 1) * 8 + 4 = j * 8 + 2:=by omega
      have na21:¬ j * 8 + 2 = (j - 1) * 8 + 5:=by omega
      have nb21:¬ (j - 1) * 8 + 5 = j * 8 + 2:=by omega
      have na22:¬ j * 8 + 2 = (j - 1) * 8 + 6:=by omega
      have nb22:¬ (j - 1) * 8 + 6 = j * 8 + 2:=by omega
      have na23:¬ j * 8 + 2 = (j - 1) * 8 + 7:=by omega
      have nb23:¬ (j - 1) * 8 + 7 = j * 8 + 2:=by omega
      have na24:¬ j * 8 + 3 = (j - 1) * 8:=by omega
      have nb24:¬ (j - 1) * 8 = j * 8 + 3:=by omega
      have na25:¬ j * 8 + 3 = (j - 1) * 8 + 1:=by omega
      have nb25:¬ (j - 1) * 8 + 1 = j * 8 + 3:=by omega
      have na26:¬ j * 8 + 3 = (j - 1) * 8 + 2:=by omega
      have nb26:¬ (j - 1) * 8 + 2 = j * 8 + 3:=by omega
      have na27:¬ j * 8 + 3 = (j - 1) * 8 + 3:=by omega
      have nb27:¬ (j - 1) * 8 + 3 = j * 8 + 3:=by omega
      have na28:¬ j * 8 + 3 = (j - 1) * 8 + 4:=by omega
      have nb28:¬ (j - 1) * 8 + 4 = j * 8 + 3:=by omega
      have na29:¬ j * 8 + 3 = (j - 1) * 8 + 5:=by omega
      have nb29:¬ (j - 1) * 8 + 5 = j * 8 + 3:=by omega
      have na30:¬ j * 8 + 3 = (j - 1) * 8 + 6:=by omega
      have nb30:¬ (j - 1) * 8 + 6 = j * 8 + 3:=by omega
      have na31:¬ j * 8 + 3 = (j - 1) * 8 + 7:=by omega
      have nb31:¬ (j - 1) * 8 + 7 = j * 8 + 3:=by omega
      have na32:¬ j * 8 + 4 = (j - 1) * 8:=by omega
      have nb32:¬ (j - 1) * 8 = j * 8 + 4:=by omega
      have na33:¬ j * 8 + 4 = (j - 1) * 8 + 1:=by omega
      have nb33:¬ (j - 1) * 8 + 1 = j * 8 + 4:=by omega
      have na34:¬ j * 8 + 4 = (j - 1) * 8 + 2:=by omega
      have nb34:¬ (j - 1) * 8 + 2 = j * 8 + 4:=by omega
      have na35:¬ j * 8 + 4 = (j - 1) * 8 + 3:=by omega
      have nb35:¬ (j - 1) * 8 + 3 = j * 8 + 4:=by omega
      have na36:¬ j * 8 + 4 = (j - 1) * 8 + 4:=by omega
      have nb36:¬ (j - 1) * 8 + 4 = j * 8 + 4:=by omega
      have na37:¬ j * 8 + 4 = (j - 1) * 8 + 5:=by omega
      have nb37:¬ (j - 1) * 8 + 5 = j * 8 + 4:=by omega
      have na38:¬ j * 8 + 4 = (j - 1) * 8 + 6:=by omega
      have nb38:¬ (j - 1) * 8 + 6 = j * 8 + 4:=by omega
      have na39:¬ j * 8 + 4 = (j - 1) * 8 + 7:=by omega
      have nb39:¬ (j - 1) * 8 + 7 = j * 8 + 4:=by omega
      have na40:¬ j * 8 + 5 = (j - 1) * 8:=by omega
      have nb40:¬ (j - 1) * 8 = j * 8 + 5:=by omega
      have na41:¬ j * 8 + 5 = (j - 1) * 8 + 1:=by omega
      have nb41:¬ (j - 1) * 8 + 1 = j * 8 + 5:=by omega
      have na42:¬ j * 8 + 5 = (j - 1) * 8 + 2:=by omega
      have nb42:¬ (j - 1) * 8 + 2 = j * 8 + 5:=by omega
      have na43:¬ j * 8 + 5 = (j - 1) * 8 + 3:=by omega
      have nb43:¬ (j - 1) * 8 + 3 = j * 8 + 5:=by omega
      have na44:¬ j * 8 + 5 = (j - 1) * 8 + 4:=by omega
      have nb44:¬ (j - 1) * 8 + 4 = j * 8 + 5:=by omega
      have na45:¬ j * 8 + 5 = (j - 1) * 8 + 5:=by omega
      have nb45:¬ (j - 1) * 8 + 5 = j * 8 + 5:=by omega
      have na46:¬ j * 8 + 5 = (j - 1) * 8 + 6:=by omega
      have nb46:¬ (j - 1) * 8 + 6 = j * 8 + 5:=by omega
      have na47:¬ j * 8 + 5 = (j - 1) * 8 + 7:=by omega
      have nb47:¬ (j - 1) * 8 + 7 = j * 8 + 5:=by omega
      have na48:¬ j * 8 + 6 = (j - 1) * 8:=by omega
      have nb48:¬ (j - 1) * 8 = j * 8 + 6:=by omega
      have na49:¬ j * 8 + 6 = (j - 1) * 8 + 1:=by omega
      have nb49:¬ (j - 1) * 8 + 1 = j * 8 + 6:=by omega
      have na50:¬ j * 8 + 6 = (j - 1) * 8 + 2:=by omega
      have nb50:¬ (j - 1) * 8 + 2 = j * 8 + 6:=by omega
      have na51:¬ j * 8 + 6 = (j - 1) * 8 + 3:=by omega
      have nb51:¬ (j - 1) * 8 + 3 = j * 8 + 6:=by omega
      have na52:¬ j * 8 + 6 = (j - 1) * 8 + 4:=by omega
      have nb52:¬ (j - 1) * 8 + 4 = j * 8 + 6:=by omega
      have na53:¬ j * 8 + 6 = (j - 1) * 8 + 5:=by omega
      have nb53:¬ (j - 1) * 8 + 5 = j * 8 + 6:=by omega
      have na54:¬ j * 8 + 6 = (j - 1) * 8 + 6:=by omega
      have nb54:¬ (j - 1) * 8 + 6 = j * 8 + 6:=by omega
      have na55:¬ j * 8 + 6 = (j - 1) * 8 + 7:=by omega
      have nb55:¬ (j - 1) * 8 + 7 = j * 8 + 6:=by omega
      have na56:¬ j * 8 + 7 = (j - 1) * 8:=by omega
      have nb56:¬ (j - 1) * 8 = j * 8 + 7:=by omega
      have na57:¬ j * 8 + 7 = (j - 1) * 8 + 1:=by omega
      have nb57:¬ (j - 1) * 8 + 1 = j * 8 + 7:=by omega
      have na58:¬ j * 8 + 7 = (j - 1) * 8 + 2:=by omega
      have nb58:¬ (j - 1) * 8 + 2 = j * 8 + 7:=by omega
      have na59:¬ j * 8 + 7 = (j - 1) * 8 + 3:=by omega
      have nb59:¬ (j - 1) * 8 + 3 = j * 8 + 7:=by omega
      have na60:¬ j * 8 + 7 = (j - 1) * 8 + 4:=by omega
      have nb60:¬ (j - 1) * 8 + 4 = j * 8 + 7:=by omega
      have na61:¬ j * 8 + 7 = (j - 1) * 8 + 5:=by omega
      have nb61:¬ (j - 1) * 8 + 5 = j * 8 + 7:=by omega
      have na62:¬ j * 8 + 7 = (j - 1) * 8 + 6:=by omega
      have nb62:¬ (j - 1) * 8 + 6 = j * 8 + 7:=by omega
      have na63:¬ j * 8 + 7 = (j - 1) * 8 + 7:=by omega
      have nb63:¬ (j - 1) * 8 + 7 = j * 8 + 7:=by omega
      have e1:((j:Int) - 1).toNat = j - 1:=by omega
      have hst:∀ (m:Nat) (ad:Addr) (mo:Mode) (W:World),Sem.run Tryz.prog (store ad (f x m) mo) W = stored Tryz.prog W ad (f x m) mo:=fun m ad mo W => run_store _ W ad _ mo (HF1.out x hxm.out m)
      have hst':∀ (m:Nat) (ad:Addr) (mo:Mode) (W:World),Sem.run Tryz.prog (store ad (f y m) mo) W = stored Tryz.prog W ad (f y m) mo:=fun m ad mo W => run_store _ W ad _ mo (HF1.out y hmy.out m)
      go_upto_region 6 with (fail)
      go_region
      clear hst hst'
      have JN:Hid (SW_Sta H g 53 8 f rest w ((zs.set j y).set (j - 1) x) (World.drew (setK (setK w1 g (j * 8) ((List.range 8).map (f y))) g ((j - 1) * 8) ((List.range 8).map (f x))))):=SW_mk_Sta ZP.out (setK_grown _ _ (setK_grown _ _ Z4.out)) (setK_in _ _ (setK_in _ _ Z5.out hg) hg)
      clear cj0 dj0 fj0 gj0 cj1 dj1 fj1 gj1 cj2 dj2 fj2 gj2 cj3 dj3 fj3 gj3 cj4 dj4 fj4 gj4 cj5 dj5 fj5 gj5 cj6 dj6 fj6 gj6 cj7 dj7 fj7 gj7 ZP Z4 Z5 hsw hdn na0 nb0 na1 nb1 na2 nb2 na3 nb3 na4 nb4 na5 nb5 na6 nb6 na7 nb7 na8 nb8 na9 nb9 na10 nb10 na11 nb11 na12 nb12 na13 nb13 na14 nb14 na15 nb15 na16 nb16 na17 nb17 na18 nb18 na19 nb19 na20 nb20 na21 nb21 na22 nb22 na23 nb23 na24 nb24 na25 nb25 na26 nb26 na27 nb27 na28 nb28 na29 nb29 na30 nb30 na31 nb31 na32 nb32 na33 nb33 na34 nb34 na35 nb35 na36 nb36 na37 nb37 na38 nb38 na39 nb39 na40 nb40 na41 nb41 na42 nb42 na43 nb43 na44 nb44 na45 nb45 na46 nb46 na47 nb47 na48 nb48 na49 nb49 na50 nb50 na51 nb51 na52 nb52 na53 nb53 na54 nb54 na55 nb55 na56 nb56 na57 nb57 na58 nb58 na59 nb59 na60 nb60 na61 nb61 na62 nb62 na63 nb63
      go_wp2_with fail
      refine ⟨⟨j - 1,_,by omega,by rw [show ((j:Int) - 1) = ((j - 1:Nat):Int) from by omega],JS,JN⟩,?_⟩
      simp only [intOf]
      omega
     ·have hzz:=Lib.hid (hdn.out (by simpa using hr))
      have JN:Hid (SW_Sta H g 53 8 f rest w zs w1):=⟨Z3h.out,Z4.out,Z5.out⟩
      clear cj0 dj0 fj0 gj0 cj1 dj1 fj1 gj1 cj2 dj2 fj2 gj2 cj3 dj3 fj3 gj3 cj4 dj4 fj4 gj4 cj5 dj5 fj5 gj5 cj6 dj6 fj6 gj6 cj7 dj7 fj7 gj7 ZP Z4 Z5 hsw hdn
      go_wp2_with fail
      refine ⟨⟨i + 1,zs,by omega,by omega,by go_num,?_,JN⟩,?_⟩
      ·show _ = _
       rw [hstep.out,HRR.out]
       exact hzz.out
      ·simp only [intOf]
       omega
    ·have hj1:j = 0:=by omega
     subst hj1
     have hzz:=Lib.hid (SI.out.done SI.out.length.1 (fun h => absurd h (by omega)))
     have HZL:=Lib.hid hzl
     clear hzl
     go_wp2_with fail
     go_quiet (fail)
     go_wp2_with fail
     refine ⟨⟨i + 1,zs,by omega,by omega,by go_num,?_,Ji.out.1,grown_drewN' Ji.out.2.1 _,Ji.out.2.2⟩,?_⟩
     ·show _ = _
      rw [hstep.out,HRR.out]
      exact hzz.out
     ·simp only [intOf]
      omega
  ·have hys2:=Lib.hid (show ys = isort (fun a b => decide (c a b < 0)) ds by have:=hys.out;rw [List.take_of_length_le (by rw [HN.out];omega),List.drop_of_length_le (by rw [HN.out];omega),List.append_nil] at this;exact this)
   go_wp2_with fail
   go_end0
   refine ⟨rfl,?_⟩
   rw [← hys2.out]
   exact J.out
set_option maxHeartbeats 1000000 in
theorem stable_Sta (H:Frz) (f:D → Nat → Value) (kf:Nat) (caps:List Value) (c:D → D → Int) (ds:List D) (hf1:∀ d ∈ ds,∀ m,(f d m).oneCell' = true) (hcmp:CmpK_Sta H f kf caps c ds) (hcall:∀ (a b:Value) (W:World),(callFunc kf (a :: b :: caps).toArray).run Tryz.prog W = .ok (.enter kf (a :: b :: caps).toArray) W) (g n cap:Nat) (rest:List Value) (w:World)
  (hn:ds.length = n) (hcap:n ≤ cap) (hn20:n < 20) (hH:H.In w) (hg:H g = none) (hB:KBlk w g 53 8 f ds rest) :
  Calls Tryz.prog 132 #[.slice (some ⟨g,0,none⟩) n cap,.int .i64 n,.func (.func kf) #[] caps.toArray] w fun e w' =>
   e = .returned (.tuple #[]) ∧ SW_Sta H g 53 8 f rest w (isort (fun a b => decide (c a b < 0)) ds) w':=by
 have HI:=Lib.hid (insort_Sta H f kf caps c ds hf1 hcmp hcall g n cap rest w hn hcap (by omega) hH hg hB)
 clear hcmp hcall hH hB hn hg hf1
 go_enter Tryz.func132,Tryz.ntmps132
 go_wp2_with fail
 refine wp_loop_rounds 1 ?_
 rw [rounds_succ]
 go_wp2_with fail
 refine HI.out.mono ?_
 rintro e w1 ⟨rfl,J⟩
 have J:=Lib.hid J
 clear HI
 go_wp2_with fail
 refine wp_loop_rounds 1 ?_
 rw [rounds_succ]
 go_wp2_with fail
 go_end0
 exact ⟨rfl,J.out⟩
set_option maxHeartbeats 1000000 in
theorem stable_nil_Sta (A:Option Addr) (cap:Nat) (fv:Value) (w:World) :
  Calls Tryz.prog 94 #[.slice A 0 cap,fv] w fun e w' => e = .returned (.tuple #[]) ∧ w = w':=by
 go_enter Tryz.func94,Tryz.ntmps94
 go_wp2
 refine wp_loop_rounds 1 ?_
 rw [rounds_succ]
 go_wp2
 refine wp_loop_rounds 1 ?_
 rw [rounds_succ]
 go_wp2
 go_end0
 go_wp2
 refine wp_loop_rounds 1 ?_
 rw [rounds_succ]
 go_wp2
 go_end0
 go_wp2
 go_end0
 exact ⟨rfl,rfl⟩
set_option maxHeartbeats 1000000 in
theorem sortStable_Sta (H:Frz) (f:D → Nat → Value) (kf:Nat) (caps:List Value) (c:D → D → Int) (ds:List D) (hf1:∀ d ∈ ds,∀ m,(f d m).oneCell' = true) (hcmp:CmpK_Sta H f kf caps c ds) (hcall:∀ (a b:Value) (W:World),(callFunc kf (a :: b :: caps).toArray).run Tryz.prog W = .ok (.enter kf (a :: b :: caps).toArray) W) (v:Value) (B:Nat) (w:World)
  (hn20:ds.length < 20) (hH:H.In w) (hHB:∀ g,v.ownBlock = some g → H g = none) (hO:Orow w B 53 8 f v ds) :
  Calls Tryz.prog 94 #[v,.func (.func kf) #[] caps.toArray] w fun e w' =>
   e = .returned (.tuple #[]) ∧ Orow w' B 53 8 f v (isort (fun a b => decide (c a b < 0)) ds) ∧ w.grownBy w' v.ownBlock ∧ H.In w':=by
 rcases hO.2 with ⟨rfl,h0⟩ | ⟨g,cap,cur,rfl,hBg,hh,hle,hm,hs,ht⟩
 ·have:ds = []:=List.eq_nil_of_length_eq_zero h0
  subst this
  refine (stable_nil_Sta none 0 _ w).mono ?_
  rintro e w' ⟨rfl,rfl⟩
  exact ⟨rfl,hO,World.grownBy.refl _ _,hH⟩
 ·have hK:KBlk w g 53 8 f ds (cur.toList.drop (ds.length * 8)):=by
   unfold KBlk
   rw [← ht,List.take_append_drop]
   exact hh
  have HI:=Lib.hid (stable_Sta H f kf caps c ds hf1 hcmp hcall g ds.length cap _ w rfl hle hn20 hH (hHB g rfl) hK)
  clear hcmp hcall hH hO hK hHB hf1
  go_enter Tryz.func94,Tryz.ntmps94
  go_wp2_with fail
  refine HI.out.mono ?_
  rintro e w1 ⟨rfl,J⟩
  have J:=Lib.hid J
  clear HI
  go_wp2_with fail
  go_end0
  refine ⟨rfl,?_,J.out.2.1,J.out.2.2⟩
  have h1:=J.out.1
  refine ⟨by rw [cellsOf_len],Or.inr ⟨g,cap,_,by rw [isort_length],hBg,h1,by rw [isort_length];exact hle,hm,?_,?_⟩⟩
  ·simp [cellsOf_len,isort_length,hs]
   have:=Nat.mul_le_mul_right 8 hle
   omega
  ·rw [isort_length]
   simp
   rw [List.take_left' (by rw [cellsOf_len,isort_length])]
end
open Go.RowKit
def detSeqE (P:Program) (ops:Array Oper) (J:World → Prop) (K:Act → Prop):List Oper → Act → Prop
 | [],a => K a
 | o :: r,a => (Region.wanted o (yielded ops a.tmps) = true → ∃ v,(∀ W,J W → OpV P o a.eval W fun v' W' => v' = v ∧ J W' ∧ Below W.heap.size W W') ∧ detSeqE P ops J K r (a.put o.dst v)) ∧ (Region.wanted o (yielded ops a.tmps) = false → detSeqE P ops J K r (a.put o.dst undef))
section
variable {P:Program} {l:List Oper} {n N:Nat} {a0:Act} {J:World → Prop} {K:Act → Prop} {Q:Exit → Act → World → Prop} {X:Nat → Value}
def DetAtE (P:Program) (ops:Array Oper) (J:World → Prop) (o:Oper) (a:Act) (v:Value):Prop :=
 (Region.wanted o (yielded ops a.tmps) = true → ∀ W,J W → OpV P o a.eval W fun v' W' => v' = v ∧ J W' ∧ Below W.heap.size W W') ∧ (Region.wanted o (yielded ops a.tmps) = false → v = undef)
theorem detSeqE_fn (ops:Array Oper):∀ (r:List Oper) (i:Nat) (a:Act),detSeqE P ops J K r a → ∃ X:Nat → Value,K (putAll r i X a) ∧ ∀ m o,r[m]? = some o → DetAtE P ops J o (putAll (r.take m) i X a) (X (i + m)):=by
 intro r
 induction r with
 | nil => intro i a h;exact ⟨fun _ => undef,h,fun m o e => by simp at e⟩
 | cons o r ih =>
  intro i a h
  have key:∀ v,DetAtE P ops J o a v → detSeqE P ops J K r (a.put o.dst v) → ∃ X:Nat → Value,K (putAll (o :: r) i X a) ∧ ∀ m o',(o :: r)[m]? = some o' → DetAtE P ops J o' (putAll ((o :: r).take m) i X a) (X (i + m)):=by
   intro v hv hs
   obtain ⟨X',hK,hX⟩:=ih (i + 1) _ hs
   have hc:∀ k,i + 1 ≤ k → (fun k => if k = i then v else X' k) k = X' k:=fun k hk => if_neg (by omega)
   have h0:(fun k => if k = i then v else X' k) i = v:=if_pos rfl
   refine ⟨fun k => if k = i then v else X' k,?_,?_⟩
   ·simp only [putAll,if_true]
    rw [putAll_congr r (i + 1) _ _ _ hc]
    exact hK
   ·intro m o' hm
    cases m with
    | zero =>
     simp only [List.getElem?_cons_zero] at hm
     injection hm with hm
     subst hm
     simp only [List.take_zero,putAll,Nat.add_zero,if_true]
     exact hv
    | succ m =>
     simp only [List.getElem?_cons_succ] at hm
     have:=hX m o' hm
     simp only [List.take_succ_cons,putAll,if_true]
     rw [putAll_congr (r.take m) (i + 1) _ _ _ hc,if_neg (show ¬ i + (m + 1) = i by omega),show i + (m + 1) = i + 1 + m from by omega]
     exact this
  unfold detSeqE at h
  cases hw:Region.wanted o (yielded ops a.tmps) with
  | true =>
   obtain ⟨v,hv,hs⟩:=h.1 hw
   exact key v ⟨fun _ => hv,fun e => (by rw [hw] at e;cases e)⟩ hs
  | false => exact key undef ⟨fun e => (by rw [hw] at e;cases e),fun _ => rfl⟩ (h.2 hw)
theorem DInv.go (hB:detB l n N = true) (hN:a0.tmps.size = N) {listed:Array Bool} {a:Act} {w:World} (h:DInv l n a0 X J listed a w) {i:Nat} (hr:i ∈ Region.ready .any l.toArray listed) (hi:i < n)
  {R:Value → World → Prop} {Z:Act → World → Prop}
  (h1:∀ o,l[i]? = some o → (Region.wanted o (yielded l.toArray (putAll ((l.take n).take i) 0 X a0).tmps) = true → OpV P o (putAll ((l.take n).take i) 0 X a0).eval w R) ∧ (Region.wanted o (yielded l.toArray (putAll ((l.take n).take i) 0 X a0).tmps) = false → R undef w))
  (hK:∀ o v w',l[i]? = some o → R v w' → J w' ∧ (DInv l n a0 (fun j => if j = i then v else X j) J (listed.setIfInBounds i true) (a.put o.dst v) w' → Z (a.put o.dst v) w')) :
  wpOp P l.toArray Q i Z a w:=by
 obtain ⟨o,d,ho,hg,hsel,hd,hdN,hw,haft,hdep⟩:=detB_at hB hi
 have ho':l.toArray[i]? = some o:=by simpa using ho
 have hsz:=(putAll_size ((l.take n).take i) 0 X a0).1
 have hwait:∀ j,Region.waitsFor .any l.toArray i j = true → j < i ∧ listed.getD j false = true:=by
  intro j hj
  obtain ⟨oj,hoj,e,he,hb,hon⟩:=Region.waitsFor_spec hj
  have e1:oj = o:=Option.some.inj (hoj.symm.trans ho')
  subst e1
  obtain ⟨_,oi,hoi,hall⟩:=mem_ready.1 hr
  have e2:oi = oj:=Option.some.inj (hoi.symm.trans ho')
  subst e2
  rw [← hon]
  exact ⟨haft e he hb,hall e he hb⟩
 have hslot:∀ s j,writer l n s = some j → Region.waitsFor .any l.toArray i j = true → a.tmps.getD s undef = (putAll ((l.take n).take i) 0 X a0).tmps.getD s undef:=by
  intro s j hj hwj
  obtain ⟨h1,h2⟩:=hwait j hwj
  obtain ⟨hjn,hjd⟩:=writer_dst hj
  rw [before_slot hB hN hj h1]
  exact h.done j s hjn h2 hjd
 have hev:∀ x ∈ o.op.operands,a.eval x = (putAll ((l.take n).take i) 0 X a0).eval x:=by
  intro x hx
  cases x with
  | tmp s =>
   have hs:s ∈ tmpsOf o:=by
    unfold tmpsOf
    rw [List.mem_filterMap]
    exact ⟨.tmp s,by simpa using hx,rfl⟩
   show a.tmps.getD s undef = _
   cases hws:writer l n s with
   | none =>
    rw [h.other s hws]
    by_cases hlt:s < a0.tmps.size
    ·exact (before_other hlt hws).symm
    ·show _ = (putAll ((l.take n).take i) 0 X a0).tmps.getD s undef
     rw [getD_out (t:=a0.tmps) (Nat.not_lt.1 hlt),getD_out (t:=(putAll ((l.take n).take i) 0 X a0).tmps) (by rw [hsz];exact Nat.not_lt.1 hlt)]
   | some j => exact hslot s j hws (hdep s hs j hws)
  | const v => rfl
  | global g => rfl
  | func f => rfl
 have hwant:Region.wanted o (yielded l.toArray a.tmps) = Region.wanted o (yielded l.toArray (putAll ((l.take n).take i) 0 X a0).tmps):=by
  unfold Region.wanted
  cases hgd:o.guard with
  | none => rfl
  | some p =>
   obtain ⟨j,b⟩:=p
   unfold guardOk at hg
   rw [hgd] at hg
   simp only [Bool.and_eq_true,decide_eq_true_eq] at hg
   obtain ⟨oj,dj,hoj,_,_,hdj,_,hwj,_⟩:=detB_at hB hg.1
   have hds:dstAt l j = some dj:=by simp [dstAt,hoj,hdj]
   have:=yielded_eq (l:=l) (by rw [hsz,h.size]) hds (hslot dj j hwj hg.2)
   simp only [this]
 have hfin:∀ v w',R v w' → Z (a.put o.dst v) w':=by
  intro v w' hR
  obtain ⟨hJ,hZ⟩:=hK o v w' ho hR
  apply hZ
  have hda:d < a.tmps.size:=by rw [h.size,hN];exact hdN
  rw [hd]
  refine ⟨h.head.set hr hi,hJ,h.defers,by simp [Act.put,h.size],?_,?_⟩
  ·intro s hs
   rw [getD_put hda]
   have:s ≠ d:=by rintro rfl;rw [hw] at hs;cases hs
   rw [if_neg this]
   exact h.other s hs
  ·intro j s hj hl hjs
   rw [getD_put hda]
   by_cases e:s = d
   ·subst e
    rw [if_pos rfl]
    have hw2:writer l n s = some j:=by
     obtain ⟨oj,dj,hoj,_,_,hdj,_,hwj,_⟩:=detB_at hB hj
     have:dj = s:=by simp only [dstAt,hoj,Option.bind_some,hdj] at hjs;injection hjs
     rw [← this];exact hwj
    rw [hw] at hw2
    injection hw2 with e2
    show v = if j = i then v else X j
    rw [e2,if_pos rfl]
   ·rw [if_neg e]
    have hne:i ≠ j:=by
     rintro rfl
     simp only [dstAt,ho,Option.bind_some,hd] at hjs
     injection hjs with e3
     exact e e3.symm
    rw [getD_set_ne false hne] at hl
    show _ = if j = i then v else X j
    rw [if_neg (fun c => hne c.symm)]
    exact h.done j s hj hl hjs
 have hX':=h1 o ho
 unfold wpOp
 rw [ho']
 cases hwv:Region.wanted o (yielded l.toArray a.tmps) with
 | true =>
  simp only [hwv,if_true]
  left
  have h1:=hX'.1 (by rw [← hwant];exact hwv)
  have h2:OpV P o a.eval w R:=by
   unfold OpV at h1 ⊢
   rw [execOp_congr o (notSel_ne hsel) hev]
   exact h1
  exact OpV.wp h2 (fun v w' hR => hfin v w' hR)
 | false =>
  simp only [hwv,Bool.false_eq_true,if_false]
  exact hfin undef w (hX'.2 (by rw [← hwant];exact hwv))
theorem putAll_congr2 (r:List Oper) (i:Nat) (x y:Nat → Value) (a:Act) (h:∀ k,i ≤ k → k < i + r.length → x k = y k):putAll r i x a = putAll r i y a:=by
 induction r generalizing i a with
 | nil => rfl
 | cons o r ih =>
  simp only [putAll]
  rw [h i (Nat.le_refl _) (by simp)]
  exact ih _ _ (fun k hk hl => h k (by omega) (by simp;omega))
theorem putAll_snoc (r:List Oper) (o:Oper) (i:Nat) (x:Nat → Value) (a:Act):putAll (r ++ [o]) i x a = (putAll r i x a).put o.dst (x (i + r.length)):=by
 induction r generalizing i a with
 | nil => rfl
 | cons q r ih =>
  simp only [List.cons_append,putAll]
  rw [ih]
  congr 2
  simp;omega
def IE (l:List Oper) (n:Nat) (a0:Act) (X:Nat → Value) (J:World → Prop) (ψ:Value → World → Prop) (listed:Array Bool) (a:Act) (w:World):Prop :=
 ∃ v,DInv l (n + 1) a0 (fun j => if j = n then v else X j) J listed a w ∧ (listed.getD n false = true → ψ v w)
theorem wpAny_detE {ψ:Value → World → Prop} (hB:detB l (n + 1) N = true) (hN:a0.tmps.size = N) (hψ:∀ v W W',Below W.heap.size W W' → ψ v W → ψ v W')
  (hX:∀ i o,i < n → l[i]? = some o → DetAtE P l.toArray J o (putAll ((l.take n).take i) 0 X a0) (X i))
  (hcall:∀ o,l[n]? = some o → Region.wanted o (yielded l.toArray (putAll (l.take n) 0 X a0).tmps) = true ∧ ∀ W,J W → OpV P o (putAll (l.take n) 0 X a0).eval W fun v' W' => ψ v' W' ∧ J W')
  (hend:∀ o v w',l[n]? = some o → J w' → ψ v w' → wpList P l.toArray Q (l.drop (n + 1)) ((putAll (l.take n) 0 X a0).put o.dst v) w') :
  ∀ (c:Nat) (listed:Array Bool) (a:Act) (w:World),IE l n a0 X J ψ listed a w → ((List.range (n + 1)).countP fun j => !listed.getD j true) = c → wpAny P .any l.toArray Q (c + (l.length - (n + 1))) listed a w:=by
 have hB':=hB
 simp only [detB,Bool.and_eq_true,decide_eq_true_eq] at hB'
 obtain ⟨⟨⟨⟨hn,hsink⟩,hchain⟩,hseq⟩,_⟩:=hB'
 have hln:n < l.length:=by omega
 have hpre:∀ i v,i ≤ n → putAll ((l.take (n + 1)).take i) 0 (fun j => if j = n then v else X j) a0 = putAll ((l.take n).take i) 0 X a0:=by
  intro i v hi
  have e:(l.take (n + 1)).take i = (l.take n).take i:=by rw [List.take_take,List.take_take,Nat.min_eq_left (by omega),Nat.min_eq_left hi]
  rw [e]
  refine putAll_congr2 _ _ _ _ _ (fun k _ hk => ?_)
  have:k < n:=by simp at hk;omega
  show (if k = n then v else X k) = X k
  rw [if_neg (by omega)]
 intro c
 induction c with
 | zero =>
  rintro listed a w ⟨v,h,hv⟩ hc
  have hall:∀ i,i < n + 1 → listed.getD i false = true:=fun i hi => by
   have:=List.countP_eq_zero.1 hc i (List.mem_range.2 hi)
   have hsz:=h.head.size
   have his:i < listed.size:=by rw [hsz];simp;omega
   simp [his] at this ⊢
   exact this
  have hvn:=hv (hall n (by omega))
  have hfin:=h.fin hB hN hall
  have he:=allTrue_eq (n:=n + 1) (m:=l.length) (by rw [h.head.size];simp) hall (fun t h1 h2 => h.head.tail t h1 (by simpa using h2))
  have ha:a = (putAll (l.take n) 0 X a0).put l[n].dst v:=by
   rw [hfin,List.take_succ_eq_append_getElem hln,putAll_snoc]
   have h1:putAll (l.take n) 0 (fun j => if j = n then v else X j) a0 = putAll (l.take n) 0 X a0:=by
    refine putAll_congr2 _ _ _ _ _ (fun k _ hk => ?_)
    have:k < n:=by simp at hk;omega
    show (if k = n then v else X k) = X k
    rw [if_neg (by omega)]
   rw [h1]
   congr 1
   have:0 + (l.take n).length = n:=by simp;omega
   show (if 0 + (l.take n).length = n then v else _) = v
   rw [if_pos this]
  have hW:=hend l[n] v w (List.getElem?_eq_getElem hln) h.world hvn
  rw [← ha] at hW
  have:=wpAny_of_seq (P:=P) (ops:=l.toArray) (md:=.any) (Q':=Q) (l.drop (n + 1)) (n + 1) listed a w (fun j => by simp [List.getElem?_drop]) (by rw [List.length_drop,he];exact hseq) hW
  rw [List.length_drop] at this
  rw [Nat.zero_add]
  exact this
 | succ c ih =>
  rintro listed a w ⟨v,h,hv⟩ hc
  have hex:∃ i,i < n + 1 ∧ listed.getD i true = false:=by
   have:0 < (List.range (n + 1)).countP fun j => !listed.getD j true:=by omega
   obtain ⟨i,hi,hl⟩:=List.countP_pos_iff.1 this
   exact ⟨i,List.mem_range.1 hi,by simpa using hl⟩
  have hne:Region.ready .any l.toArray listed ≠ []:=by
   have:∀ m i,i < n + 1 → i ≤ m → listed.getD i true = false → ∃ k,k ∈ Region.ready .any l.toArray listed:=by
    intro m
    induction m with
    | zero =>
     intro i hi hm hl
     obtain rfl:i = 0:=by omega
     obtain ⟨o,d,ho,_,_,_,_,_,haft,_⟩:=detB_at hB hi
     refine ⟨0,mem_ready.2 ⟨hl,o,by simpa using ho,fun e he hb => ?_⟩⟩
     have:=haft e he hb
     omega
    | succ m ihm =>
     intro i hi hm hl
     obtain ⟨o,d,ho,_,_,_,_,_,haft,_⟩:=detB_at hB hi
     by_cases hd:∀ e ∈ o.after,Region.binds .any e = true → listed.getD e.on false = true
     ·exact ⟨i,mem_ready.2 ⟨hl,o,by simpa using ho,hd⟩⟩
     ·obtain ⟨e,hd⟩:=Classical.not_forall.1 hd
      obtain ⟨he,hd⟩:=Classical.not_forall.1 hd
      obtain ⟨hb,hd⟩:=Classical.not_forall.1 hd
      have hlt:=haft e he hb
      have hes:e.on < listed.size:=by rw [h.head.size];simp;omega
      exact ihm e.on (by omega) (by omega) (getD_in hes (by simpa using hd))
   obtain ⟨i,hi,hl⟩:=hex
   obtain ⟨k,hk⟩:=this i i hi (Nat.le_refl _) hl
   intro e
   rw [e] at hk
   cases hk
  rw [show c + 1 + (l.length - (n + 1)) = (c + (l.length - (n + 1))) + 1 from by omega]
  refine ⟨fun e => absurd e hne,fun i hi => ?_⟩
  obtain ⟨k,hk,hkl⟩:=hex
  have hin:i < n + 1:=by
   rcases Nat.lt_or_ge i (n + 1) with h' | h'
   ·exact h'
   ·exact absurd hi (tail_waits hsink hchain (by simpa using hn) h.head (n + 1 - k) k rfl hk hkl i h')
  have hl:=(mem_ready.1 hi).1
  have hcnt:=countP_set hin hl
  refine wpOp_mono (fun a' w' h' => ih (listed.setIfInBounds i true) a' w' h' (by omega)) ?_
  by_cases hi2:i < n
  ·refine DInv.go hB hN h hi hin (R:=fun v' W' => v' = X i ∧ J W' ∧ Below w.heap.size w W') ?_ ?_
   ·intro o ho
    rw [hpre i v (by omega)]
    have:=hX i o hi2 ho
    refine ⟨fun hw => this.1 hw w h.world,fun hw => ⟨(this.2 hw).symm,h.world,Below.refl _ _⟩⟩
   ·rintro o v' w' ho ⟨rfl,hJ,hb⟩
    refine ⟨hJ,fun hD => ⟨v,?_,?_⟩⟩
    ·have e:(fun j => if j = i then X i else (fun j => if j = n then v else X j) j) = fun j => if j = n then v else X j:=by
      funext j
      by_cases hj:j = i
      ·subst hj;simp;omega
      ·simp [hj]
     rw [e] at hD
     exact hD
    ·intro hl2
     rw [getD_set_ne false (by omega)] at hl2
     exact hψ _ _ _ hb (hv hl2)
  ·have hie:i = n:=by omega
   subst hie
   refine DInv.go hB hN h hi hin (R:=fun v' W' => ψ v' W' ∧ J W') ?_ ?_
   ·intro o ho
    have e:putAll ((l.take (i + 1)).take i) 0 (fun j => if j = i then v else X j) a0 = putAll (l.take i) 0 X a0:=by
     rw [hpre i v (Nat.le_refl _),List.take_take,Nat.min_self]
    rw [e]
    have:=hcall o ho
    refine ⟨fun hw => this.2 w h.world,fun hw => ?_⟩
    rw [this.1] at hw;cases hw
   ·rintro o v' w' ho ⟨h1,h2⟩
    refine ⟨h2,fun hD => ⟨v',?_,fun _ => h1⟩⟩
    have e:(fun j => if j = i then v' else (fun j => if j = i then v else X j) j) = fun j => if j = i then v' else X j:=by
     funext j
     by_cases hj:j = i <;> simp [hj]
    rw [e] at hD
    exact hD
theorem wp_region_detE {id:Nat} {w:World} (n N:Nat) (J:World → Prop) (ψ:Value → World → Prop) (hm:P.follows .mixedOrders = true) (hB:detB l (n + 1) N = true) (hN:a0.tmps.size = N) (hψ:∀ v W W',Below W.heap.size W W' → ψ v W → ψ v W') (hJ:J w.drew)
  (o:Oper) (ho:l[n]? = some o) (hg:o.guard = none)
  (h:detSeqE P l.toArray J (fun a => (∀ W,J W → OpV P o a.eval W fun v' W' => ψ v' W' ∧ J W') ∧ ∀ v W,J W → ψ v W → wpList P l.toArray Q (l.drop (n + 1)) (a.put o.dst v) W) (l.take n) a0):(Code.region id l.toArray true).wp P Q a0 w:=by
 refine wp_region_any hm ?_
 have hn:n + 1 < l.length:=by
  simp only [detB,Bool.and_eq_true,decide_eq_true_eq] at hB
  exact hB.1.1.1.1
 obtain ⟨X,hK,hX⟩:=detSeqE_fn l.toArray (l.take n) 0 a0 h
 have h0:IE l n a0 X J ψ (Array.replicate l.toArray.size false) a0 w.drew :=
  ⟨undef,⟨⟨by simp,fun j oj _ hl => (by rw [getD_replicate_false] at hl;cases hl),fun t _ ht => getD_in (by simpa using ht) (getD_replicate_false _ _)⟩,hJ,rfl,rfl,fun _ _ => rfl,fun i s _ hl => by rw [getD_replicate_false] at hl;cases hl⟩,fun hl => by rw [getD_replicate_false] at hl;cases hl⟩
 have hc:((List.range (n + 1)).countP fun j => !(Array.replicate l.toArray.size false).getD j true) = n + 1:=by
  have:((List.range (n + 1)).countP fun j => !(Array.replicate l.toArray.size false).getD j true) = (List.range (n + 1)).length:=by
   rw [List.countP_eq_length]
   intro j hj
   have:=List.mem_range.1 hj
   have h2:j < l.length:=by omega
   simp [h2]
  rw [this,List.length_range]
 have:=wpAny_detE (Q:=Q) (X:=X) hB hN hψ (fun i o hi ho => by
  have:=hX i o (by rw [List.getElem?_take,if_pos hi];exact ho)
  rw [Nat.zero_add] at this
  exact this) (fun o' ho' => by
   rw [ho] at ho'
   injection ho' with e
   subst e
   exact ⟨by simp [Region.wanted,hg],hK.1⟩) (fun o' v w' ho' hj hv => by
   rw [ho] at ho'
   injection ho' with e
   subst e
   exact hK.2 v w' hj hv) (n + 1) _ _ _ h0 hc
 rw [show n + 1 + (l.length - (n + 1)) = l.toArray.size from by simp;omega] at this
 exact this
theorem detSeqE_op {ops:Array Oper} {o:Oper} {r:List Oper} {a:Act} (hg:o.guard = none) (v:Value) (h1:∀ W,J W → OpV P o a.eval W fun v' W' => v' = v ∧ J W' ∧ Below W.heap.size W W') (h2:detSeqE P ops J K r (a.put o.dst v)):detSeqE P ops J K (o :: r) a :=
 ⟨fun _ => ⟨v,h1,h2⟩,fun e => by simp [Region.wanted,hg] at e⟩
theorem detSeqE_nil {ops:Array Oper} {a:Act} (h:K a):detSeqE P ops J K [] a:=h
end
end Go.Proofs.YtcncifmanodabaaGreatDoor
