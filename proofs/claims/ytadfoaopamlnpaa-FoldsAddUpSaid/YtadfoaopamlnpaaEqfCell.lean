/- EqualFunc at elements of 3 cells. -/
import Derived.Test.YtadfoaopamlnpaaOrow
import Derived.Test.YtadfoaopamlnpaaIdx
import Derived.StillTailTactics
import Derived.Deep.Cut
namespace Go.Proofs.Ytadfoaopamlnpaa
set_option linter.unusedVariables false
open Go.RowKit

section
variable {D : Type}
set_option maxHeartbeats 1000000 in
theorem equalFunc_Cell (H : Frz) (f : D → Nat → Value) (kf : Nat) (caps : List Value) (p : D → D → Bool) (ds es : List D) (hf : ∀ d ∈ ds, ∀ m, (f d m).oneCell' = true) (hg : ∀ d ∈ es, ∀ m, (f d m).oneCell' = true)
    (hp : ∀ (W : World) (a b : D), a ∈ ds → b ∈ es → H.In W → Calls Try.prog kf ((.agg #[f a 0, f a 1, f a 2] : Value) :: (.agg #[f b 0, f b 1, f b 2] : Value) :: caps).toArray W fun e W' => e = .returned (.bool (p a b)) ∧ Below W.heap.size W W')
    (hcall : ∀ (a b : Value) (W : World), (callFunc kf (a :: b :: caps).toArray).run Try.prog W = .ok (.enter kf (a :: b :: caps).toArray) W)
    (A A' : Option Addr) (cap cap' : Nat) (w : World) (hH : H.In w) (hR : Rw H A 3 f ds) (hR' : Rw H A' 3 f es) (hl : ds.length ≤ 1000000) (hl' : es.length ≤ 1000000) :
    Calls Try.prog 67 #[.slice A ds.length cap, .slice A' es.length cap', .func (.func kf) #[] caps.toArray] w fun e w' => e = .returned (.bool (allEq p ds es)) ∧ Below w.heap.size w w' := by
  have HP := Lib.hid hp
  have HR := Lib.hid hR
  have HR' := Lib.hid hR'
  have HH := Lib.hid hH
  have HF := Lib.hid hf
  have HG := Lib.hid hg
  clear hp hR hR' hH hf hg
  by_cases hle : ds.length = es.length
  · have hn : ((ds.length : Int) != (es.length : Int)) = false := by simp [hle]
    have HL := Lib.hid hle
    clear hle
    go_enter Try.func67, Try.ntmps67
    go_wp2_with fail
    go_loopw [17] (fun t wr => ∃ i : Nat, i ≤ ds.length ∧ t = .int .i64 i ∧ Hid (allEq p ds es = allEq p (ds.drop i) (es.drop i)) ∧ Hid (Below w.heap.size w wr)) (fun t _ => ds.length - (intOf t).toNat)
    case atStart => exact ⟨0, by omega, rfl, rfl, Below.refl _ _⟩
    case round =>
      obtain ⟨i, hi, rfl, hall, hb⟩ := hrel
      by_cases hlt : i < ds.length
      · have hlt2 : i < es.length := by rw [← HL.out]; exact hlt
        have hlt3 : (i : Int) < es.length := by omega
        obtain ⟨b, off, rfl, hbl, hc⟩ := HR.out.at_ (HH.out.below hb.out) hlt (by omega)
        obtain ⟨b', off', rfl, hbl', hc'⟩ := HR'.out.at_ (HH.out.below hb.out) hlt2 (by omega)
        have c0 : wr.cell? ⟨b, off + i * 3, none⟩ = some (f ds[i] 0) := hc 0 (by omega)
        have c1 : wr.cell? ⟨b, off + i * 3 + 1, none⟩ = some (f ds[i] 1) := hc 1 (by omega)
        have c2 : wr.cell? ⟨b, off + i * 3 + 2, none⟩ = some (f ds[i] 2) := hc 2 (by omega)
        have d0 : wr.cell? ⟨b', off' + i * 3, none⟩ = some (f es[i] 0) := hc' 0 (by omega)
        have d1 : wr.cell? ⟨b', off' + i * 3 + 1, none⟩ = some (f es[i] 1) := hc' 1 (by omega)
        have d2 : wr.cell? ⟨b', off' + i * 3 + 2, none⟩ = some (f es[i] 2) := hc' 2 (by omega)
        have hsx0 : ∀ (ad : Addr) (mo : Mode) (W : World), Sem.run Try.prog (store ad (f ds[i] 0) mo) W = stored Try.prog W ad (f ds[i] 0) mo := fun ad mo W => run_store _ W ad _ mo (HF.out _ (List.getElem_mem hlt) 0)
        have hsy0 : ∀ (ad : Addr) (mo : Mode) (W : World), Sem.run Try.prog (store ad (f es[i] 0) mo) W = stored Try.prog W ad (f es[i] 0) mo := fun ad mo W => run_store _ W ad _ mo (HG.out _ (List.getElem_mem hlt2) 0)
        have hsx1 : ∀ (ad : Addr) (mo : Mode) (W : World), Sem.run Try.prog (store ad (f ds[i] 1) mo) W = stored Try.prog W ad (f ds[i] 1) mo := fun ad mo W => run_store _ W ad _ mo (HF.out _ (List.getElem_mem hlt) 1)
        have hsy1 : ∀ (ad : Addr) (mo : Mode) (W : World), Sem.run Try.prog (store ad (f es[i] 1) mo) W = stored Try.prog W ad (f es[i] 1) mo := fun ad mo W => run_store _ W ad _ mo (HG.out _ (List.getElem_mem hlt2) 1)
        have hsx2 : ∀ (ad : Addr) (mo : Mode) (W : World), Sem.run Try.prog (store ad (f ds[i] 2) mo) W = stored Try.prog W ad (f ds[i] 2) mo := fun ad mo W => run_store _ W ad _ mo (HF.out _ (List.getElem_mem hlt) 2)
        have hsy2 : ∀ (ad : Addr) (mo : Mode) (W : World), Sem.run Try.prog (store ad (f es[i] 2) mo) W = stored Try.prog W ad (f es[i] 2) mo := fun ad mo W => run_store _ W ad _ mo (HG.out _ (List.getElem_mem hlt2) 2)
        have HC := Lib.hid (fun W hW => HP.out W ds[i] es[i] (List.getElem_mem hlt) (List.getElem_mem hlt2) hW)
        have ht := Lib.hid (hall.out.trans (allEq_drop (p := p) hlt hlt2))
        clear hc hc'
        generalize hpd : p ds[i] es[i] = q at HC ht
        generalize f ds[i] 0 = x0 at c0 HC hsx0
        generalize f ds[i] 1 = x1 at c1 HC hsx1
        generalize f ds[i] 2 = x2 at c2 HC hsx2
        generalize f es[i] 0 = y0 at d0 HC hsy0
        generalize f es[i] 1 = y1 at d1 HC hsy1
        generalize f es[i] 2 = y2 at d2 HC hsy2
        clear hpd
        go_wp2_with fail
        refine (HC.out _ (((HH.out.below hb.out).alloc _).alloc _)).mono ?_
        rintro e w1 ⟨rfl, hb1⟩
        have hb2 := Lib.hid (((hb.out.alloc hb.out.size _).alloc (Nat.le_trans hb.out.size (by simp)) _).trans (hb1.mono (Nat.le_trans hb.out.size (by simp; omega))))
        clear hb1 hb hsx0 hsy0 hsx1 hsy1 hsx2 hsy2
        cases q with
        | true =>
          go_wp2_with fail
          go_roundw
          case rel => exact ⟨i + 1, by omega, by go_num, by have := ht.out; rwa [Bool.true_and] at this, hb2⟩
          case measure => simp [intOf]; omega
        | false =>
          have hv := Lib.hid (ht.out.trans (Bool.false_and _))
          go_wp2_with fail
          go_ret
          exact ⟨ret_bool' hv.out.symm, hb2.out⟩
      · have hv := Lib.hid (hall.out.trans (show allEq p (ds.drop i) (es.drop i) = true by rw [List.drop_of_length_le (by omega), List.drop_of_length_le (by rw [← HL.out]; omega)]; rfl))
        go_wp2_with fail
        go_ret
        exact ⟨ret_bool' hv.out.symm, hb.out⟩
  · have hn : ((ds.length : Int) != (es.length : Int)) = true := by simp; omega
    have hv := Lib.hid (allEq_len (p := p) hle)
    clear hle
    go_enter Try.func67, Try.ntmps67
    go_wp2_with fail
    go_ret
    exact ⟨ret_bool' hv.out.symm, Below.refl _ _⟩
end
end Go.Proofs.Ytadfoaopamlnpaa
