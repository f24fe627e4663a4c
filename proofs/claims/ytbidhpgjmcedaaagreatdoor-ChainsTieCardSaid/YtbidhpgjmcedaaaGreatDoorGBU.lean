/- Texts of this claim, put together: BsfTch, Numb, Chain. -/
import Derived.Test.YtbidhpgjmcedaaaGreatDoorGAB
import Derived.Test.YtbidhpgjmcedaaaGreatDoorGAC
import Derived.Test.YtbidhpgjmcedaaaGreatDoorGAM
import Derived.StillTailTactics
import Derived.Deep.Cut
import Derived.Test.YtbidhpgjmcedaaaGreatDoorGBP
import Derived.Test.YtbidhpgjmcedaaaGreatDoorGAD
import Derived.Test.YtbidhpgjmcedaaaGreatDoorGBQ
import Derived.Test.YtbidhpgjmcedaaaGreatDoorGBT
import Derived.Test.YtbidhpgjmcedaaaGreatDoorGBH
/- BinarySearchFunc at elements of 5 cells. -/
namespace Go.Proofs.YtbidhpgjmcedaaaGreatDoor
set_option linter.unusedVariables false
open Go.RowKit

section
variable {D : Type}
set_option maxHeartbeats 1000000 in
set_option maxRecDepth 100000 in
theorem bsf_Tch (H : Frz) (f : D → Nat → Value) (kf : Nat) (tv : Value) (c : D → Int) (ds : List D) (hp : ∀ (W : World) (d : D), d ∈ ds → H.In W → Calls Tryz.prog kf #[.agg #[f d 0, f d 1, f d 2, f d 3, f d 4], tv] W fun e W' => e = .returned (.int .i64 (c d)) ∧ Below W.heap.size W W')
    (hcall : ∀ (a b : Value) (W : World), (callFunc kf #[a, b]).run Tryz.prog W = .ok (.enter kf #[a, b]) W)
    (A : Option Addr) (cap : Nat) (w : World) (hH : H.In w) (hR : Rw H A 5 f ds) (hl : ds.length ≤ 1000000) (m : Nat) (hm : m ≤ ds.length) (hlo : ∀ i (h : i < ds.length), i < m → c ds[i] < 0) (hhi : ∀ i (h : i < ds.length), m ≤ i → 0 ≤ c ds[i]) :
    Calls Tryz.prog 194 #[.slice A ds.length cap, tv, .func (.func kf) #[] #[]] w fun e w' => e = .returned (.tuple #[.int .i64 m, .bool (hasAt c ds m)]) ∧ Below w.heap.size w w' := by
  have HP := Lib.hid hp
  have HR := Lib.hid hR
  have HH := Lib.hid hH
  have HLO := Lib.hid hlo
  have HHI := Lib.hid hhi
  clear hp hR hH hlo hhi
  go_enter Tryz.func194, Tryz.ntmps194
  go_wp2_with fail
  go_loopw [9, 10, 11] (fun ti tj _ wr => ∃ i j : Nat, i ≤ m ∧ m ≤ j ∧ j ≤ ds.length ∧ ti = .int .i64 i ∧ tj = .int .i64 j ∧ Hid (Below w.heap.size w wr)) (fun ti tj _ _ => (intOf tj - intOf ti).toNat)
  case atStart => exact ⟨0, ds.length, by omega, by omega, by omega, rfl, rfl, Below.refl _ _⟩
  case round =>
    obtain ⟨i, j, hi, hj, hjl, rfl, rfl, hb⟩ := hrel
    by_cases hlt : i < j
    · have e1 : IntKind.i64.wrap ((i : Int) + (j : Int)) = (i : Int) + (j : Int) := IntWalk.i64_in _ (by omega)
      obtain ⟨h, hh⟩ : ∃ h, h = (i + j) / 2 := ⟨_, rfl⟩
      have hhl : h < ds.length := by omega
      have hih : i ≤ h := by omega
      have hhj : h < j := by omega
      have k2 : ((i : Int) + (j : Int)) / 2 = (h : Int) := by omega
      obtain ⟨b, off, rfl, hbl, hc⟩ := HR.out.at_ (HH.out.below hb.out) hhl (by omega)
      have c0 : wr.cell? ⟨b, off + h * 5, none⟩ = some (f ds[h] 0) := hc 0 (by omega)
      have c1 : wr.cell? ⟨b, off + h * 5 + 1, none⟩ = some (f ds[h] 1) := hc 1 (by omega)
      have c2 : wr.cell? ⟨b, off + h * 5 + 2, none⟩ = some (f ds[h] 2) := hc 2 (by omega)
      have c3 : wr.cell? ⟨b, off + h * 5 + 3, none⟩ = some (f ds[h] 3) := hc 3 (by omega)
      have c4 : wr.cell? ⟨b, off + h * 5 + 4, none⟩ = some (f ds[h] 4) := hc 4 (by omega)
      have HC := Lib.hid (fun W hW => HP.out W ds[h] (List.getElem_mem hhl) hW)
      have HL := Lib.hid (HLO.out h hhl)
      have HU := Lib.hid (HHI.out h hhl)
      clear hc hh
      generalize hpd : c ds[h] = q at HC HL HU
      generalize f ds[h] 0 = x0 at c0 HC
      generalize f ds[h] 1 = x1 at c1 HC
      generalize f ds[h] 2 = x2 at c2 HC
      generalize f ds[h] 3 = x3 at c3 HC
      generalize f ds[h] 4 = x4 at c4 HC
      clear hpd
      go_wp2_with fail
      refine (HC.out _ (HH.out.below hb.out)).mono ?_
      rintro e w1 ⟨rfl, hb1⟩
      have hb2 := Lib.hid (hb.out.trans (hb1.mono hb.out.size))
      clear hb1 hb k2
      by_cases hq : q < 0
      · have hhm : h < m := by
          apply Classical.byContradiction
          intro hn
          have := HU.out (by omega)
          omega
        go_wp2_with fail
        go_roundw
        case rel => exact ⟨h + 1, j, by omega, by omega, by omega, by go_num, rfl, hb2⟩
        case measure => simp [intOf]; omega
      · have hhm : m ≤ h := by
          apply Classical.byContradiction
          intro hn
          exact hq (HL.out (by omega))
        go_wp2_with fail
        go_roundw
        case rel => exact ⟨i, h, by omega, by omega, by omega, rfl, rfl, hb2⟩
        case measure => simp [intOf]; omega
    · have him : i = m := by omega
      subst him
      by_cases hml : i < ds.length
      · have d1 : decide ((i : Int) < (ds.length : Int)) = true := by simpa using hml
        obtain ⟨b, off, rfl, hbl, hc⟩ := HR.out.at_ (HH.out.below hb.out) hml (by omega)
        have c0 : wr.cell? ⟨b, off + i * 5, none⟩ = some (f ds[i] 0) := hc 0 (by omega)
        have c1 : wr.cell? ⟨b, off + i * 5 + 1, none⟩ = some (f ds[i] 1) := hc 1 (by omega)
        have c2 : wr.cell? ⟨b, off + i * 5 + 2, none⟩ = some (f ds[i] 2) := hc 2 (by omega)
        have c3 : wr.cell? ⟨b, off + i * 5 + 3, none⟩ = some (f ds[i] 3) := hc 3 (by omega)
        have c4 : wr.cell? ⟨b, off + i * 5 + 4, none⟩ = some (f ds[i] 4) := hc 4 (by omega)
        have HC := Lib.hid (fun W hW => HP.out W ds[i] (List.getElem_mem hml) hW)
        have HV := Lib.hid (hasAt_lt (c := c) hml)
        clear hc
        generalize hpd : c ds[i] = q at HC HV
        generalize f ds[i] 0 = x0 at c0 HC
        generalize f ds[i] 1 = x1 at c1 HC
        generalize f ds[i] 2 = x2 at c2 HC
        generalize f ds[i] 3 = x3 at c3 HC
        generalize f ds[i] 4 = x4 at c4 HC
        clear hpd
        go_wp2_with fail
        refine (HC.out _ (HH.out.below hb.out)).mono ?_
        rintro e w1 ⟨rfl, hb1⟩
        have hb2 := Lib.hid (hb.out.trans (hb1.mono hb.out.size))
        clear hb1 hb
        go_wp2_with fail
        go_ret2
        exact ⟨by rw [HV.out]; simp, hb2.out⟩
      · have hf := Lib.hid (hasAt_ge (c := c) (show ds.length ≤ i by omega))
        go_wp2_with fail
        go_ret2
        exact ⟨by rw [hf.out]; simp, hb.out⟩
end
end Go.Proofs.YtbidhpgjmcedaaaGreatDoor

/- The place of the touch with a number. -/
namespace Go.Proofs.YtbidhpgjmcedaaaGreatDoor
set_option linter.unusedVariables false
open Go.RowKit
set_option maxHeartbeats 2000000 in
set_option maxRecDepth 100000 in
theorem numb1_any (t : TchD) (z : Int) (w : World) : Calls Tryz.prog 195 #[.agg #[.int .i64 t.no, .int .i64 t.at_, .string t.source, .slice t.ia t.ids.length t.ic, .slice t.fa t.fields.length t.fc], .int .i64 z] w fun e w' => e = .returned (.int .i64 (cmpI t.no z)) ∧ Below w.heap.size w w' := by
  have z0 : (w.alloc (.cells #[.int .i64 t.no, .int .i64 t.at_, .string t.source, .slice t.ia t.ids.length t.ic, .slice t.fa t.fields.length t.fc] 53)).cell? ⟨w.heap.size, 0, none⟩ = some (.int .i64 t.no) := newc 0 rfl
  have z1 : (w.alloc (.cells #[.int .i64 t.no, .int .i64 t.at_, .string t.source, .slice t.ia t.ids.length t.ic, .slice t.fa t.fields.length t.fc] 53)).cell? ⟨w.heap.size, 1, none⟩ = some (.int .i64 t.at_) := newc 1 rfl
  have z2 : (w.alloc (.cells #[.int .i64 t.no, .int .i64 t.at_, .string t.source, .slice t.ia t.ids.length t.ic, .slice t.fa t.fields.length t.fc] 53)).cell? ⟨w.heap.size, 2, none⟩ = some (.string t.source) := newc 2 rfl
  have z3 : (w.alloc (.cells #[.int .i64 t.no, .int .i64 t.at_, .string t.source, .slice t.ia t.ids.length t.ic, .slice t.fa t.fields.length t.fc] 53)).cell? ⟨w.heap.size, 3, none⟩ = some (.slice t.ia t.ids.length t.ic) := newc 3 rfl
  have z4 : (w.alloc (.cells #[.int .i64 t.no, .int .i64 t.at_, .string t.source, .slice t.ia t.ids.length t.ic, .slice t.fa t.fields.length t.fc] 53)).cell? ⟨w.heap.size, 4, none⟩ = some (.slice t.fa t.fields.length t.fc) := newc 4 rfl
  have HBN := Lib.hid (new1 (w := w) (.cells #[.int .i64 t.no, .int .i64 t.at_, .string t.source, .slice t.ia t.ids.length t.ic, .slice t.fa t.fields.length t.fc] 53))
  go_enter Tryz.func195, Tryz.ntmps195
  go_upto_region 1 with (fail)
  generalize w.alloc (.cells #[.int .i64 t.no, .int .i64 t.at_, .string t.source, .slice t.ia t.ids.length t.ic, .slice t.fa t.fields.length t.fc] 53) = W1 at *
  go_wp2_with fail
  refine (cmpInt_any t.no z _).mono ?_
  rintro e W2 ⟨rfl, rfl⟩
  clear z0 z1 z2 z3 z4
  go_wp2_with fail
  go_ret
  exact ⟨rfl, HBN.out⟩
set_option maxHeartbeats 2000000 in
set_option maxRecDepth 100000 in
theorem numbered_any (H : Frz) (A : Option Addr) (cap : Nat) (ts : List TchD) (z : Int) (w : World) (hH : H.In w) (hR : Rw H A 5 fTch ts) (hl : ts.length ≤ 1000000) (m : Nat) (hm : m ≤ ts.length) (hlo : ∀ i (h : i < ts.length), i < m → ts[i].no < z) (hhi : ∀ i (h : i < ts.length), m ≤ i → z ≤ ts[i].no) :
    Calls Tryz.prog 119 #[.slice A ts.length cap, .int .i64 z] w fun e w' => e = .returned (.tuple #[.int .i64 m, .bool (hasAt (fun t : TchD => cmpI t.no z) ts m)]) ∧ Below w.heap.size w w' := by
  have HBS := Lib.hid (bsf_Tch H fTch 195 (.int .i64 z) (fun t => cmpI t.no z) ts (fun W d _ _ => numb1_any d z W) (fun _ _ _ => by kernel_rfl) A cap w hH hR hl m hm (fun i h1 h2 => by have := hlo i h1 h2; unfold cmpI; rw [if_pos this]; decide) (fun i h1 h2 => by have := hhi i h1 h2; unfold cmpI; rw [if_neg (by omega)]; split <;> decide))
  clear hH hR hlo hhi
  go_enter Tryz.func119, Tryz.ntmps119
  go_wp2_with fail
  refine HBS.out.mono ?_
  rintro e W2 ⟨rfl, hb⟩
  have HB := Lib.hid hb
  clear hb HBS
  generalize hasAt (fun t : TchD => cmpI t.no z) ts m = q
  go_wp2_with fail
  exact bodyPost_ret (by kernel_rfl) rfl ⟨rfl, HB.out⟩
/-- The place of a touch's number. -/
theorem numbered_at (H : Frz) (A : Option Addr) (cap : Nat) (ts : List TchD) (w : World) (hH : H.In w) (hR : Rw H A 5 fTch ts) (hl : ts.length ≤ 1000000) (hno : ts.Pairwise fun a b => a.no < b.no) (i : Nat) (hi : i < ts.length) :
    Calls Tryz.prog 119 #[.slice A ts.length cap, .int .i64 ts[i].no] w fun e w' => e = .returned (.tuple #[.int .i64 i, .bool true]) ∧ Below w.heap.size w w' := by
  have hp := List.pairwise_iff_getElem.1 hno
  refine (numbered_any H A cap ts ts[i].no w hH hR hl i (by omega) (fun j hj hji => hp j i hj hi hji) (fun j hj hij => ?_)).mono ?_
  · rcases Nat.eq_or_lt_of_le hij with e | h
    · subst e; exact Int.le_refl _
    · exact Int.le_of_lt (hp i j hi hj h)
  · rintro e w' ⟨rfl, hb⟩
    refine ⟨?_, hb⟩
    have : hasAt (fun t : TchD => cmpI t.no ts[i].no) ts i = true := by
      rw [hasAt_lt hi]
      simp [cmpI]
    rw [this]
end Go.Proofs.YtbidhpgjmcedaaaGreatDoor

/- person.Chain. -/
namespace Go.Proofs.YtbidhpgjmcedaaaGreatDoor
set_option linter.unusedVariables false
open Go.RowKit
/-- What Chain hands back. -/
def ChainPost (r : RulD) (ts : List TchD) (i j : Nat) (w : World) (e : Ending) (w' : World) : Prop :=
  Below w.heap.size w w' ∧ ((¬ Tied (Share (JD r ts) ts) i j ∧ e = .returned (.tuple #[.slice none 0 0, .int .i64 16])) ∨
    (Tied (Share (JD r ts) ts) i j ∧ ∃ (v : Value) (cs : List LnkD), e = .returned (.tuple #[v, .int .i64 0]) ∧ Orow w' w.heap.size 104 3 fLnk v cs ∧ cs.length ≤ 1000 ∧ Chn (JD r ts) ts i cs j))
/-- A link in the making. -/
def φLn (v17 : Value) (A : Option Addr) (n cap b off q : Nat) (no : Int) (x : IdD) (i : Nat) (v : Value) (W : World) : Prop :=
  match i with
  | 0 => v = v17
  | 1 => v = .slice A n cap
  | 2 => v = .int .i64 q
  | 3 => v = .pointer (some ⟨b, off + q * 5, none⟩)
  | 4 => v = .pointer (some ⟨b, off + q * 5, none⟩)
  | 5 => v = .int .i64 no
  | 6 => v = .agg #[.int .i64 x.kind, .string x.text]
  | 7 => v = .agg #[.int .i64 no, .int .i64 x.kind, .string x.text]
  | _ => ∃ g, v = .slice (some ⟨g, 0, none⟩) 1 1 ∧ W.heap[g]? = some (.cells #[.int .i64 no, .int .i64 x.kind, .string x.text] 104 (0, 0))
theorem φLn_mono {v17 : Value} {A : Option Addr} {n cap b off q : Nat} {no : Int} {x : IdD} (i : Nat) (v : Value) (W W' : World) (_ : i < 9) (he : Below W.heap.size W W') (h : φLn v17 A n cap b off q no x i v W) : φLn v17 A n cap b off q no x i v W' := by
  match i, h with
  | 0, h => exact h
  | 1, h => exact h
  | 2, h => exact h
  | 3, h => exact h
  | 4, h => exact h
  | 5, h => exact h
  | 6, h => exact h
  | 7, h => exact h
  | i + 8, h =>
    obtain ⟨g, h1, h2⟩ := h
    exact ⟨g, h1, (he.block g (lt_of_heap h2)).trans h2⟩
set_option maxHeartbeats 8000000 in
set_option maxRecDepth 100000 in
theorem chain_any (H : Frz) (hU : UtfIn H) (hM : MLen H) (r : RulD) (A : Option Addr) (cap : Nat) (ts : List TchD) (ht : Told H A r ts) (i j : Nat) (hi : i < ts.length) (hj : j < ts.length) (w : World) (hH : H.In w) :
    Calls Tryz.prog 58 #[.agg #[.slice r.ka r.kinds.length r.kc, .int .i64 r.most, .slice r.wa r.weaks.length r.wc, .slice r.sa r.surs.length r.sc], .slice A ts.length cap, .int .i64 ts[i].no, .int .i64 ts[j].no] w (ChainPost r ts i j w) := by
  obtain ⟨j0, hj9, hj0, hj1, hj2⟩ := info_parts (show (Tryz.prog.info? 104).map (fun i => (i.zero, i.size, i.bytes)) = some (some (.agg #[.int .i64 0, .int .i64 0, .string ⟨#[]⟩]), 3, 32) by kernel_rfl)
  have HJ0 := Lib.hid hj9
  clear hj9
  have hr9 := tchs_right (ht.right.all (by have := ht.len; omega))
  have hfit : ∀ t ∈ ts, ∀ x ∈ t.ids, FitId x := fun t hx x hxx => fit_of ((hr9.2.1 t hx).idE x hxx)
  have hrul := (rul_right ht.rz).1
  have hlen : ts.length ≤ 100 := ht.len
  have z0 : (w.alloc (.cells #[.slice r.ka r.kinds.length r.kc, .int .i64 r.most, .slice r.wa r.weaks.length r.wc, .slice r.sa r.surs.length r.sc] 44)).cell? ⟨w.heap.size, 0, none⟩ = some (.slice r.ka r.kinds.length r.kc) := newc 0 rfl
  have z1 : (w.alloc (.cells #[.slice r.ka r.kinds.length r.kc, .int .i64 r.most, .slice r.wa r.weaks.length r.wc, .slice r.sa r.surs.length r.sc] 44)).cell? ⟨w.heap.size, 1, none⟩ = some (.int .i64 r.most) := newc 1 rfl
  have z2 : (w.alloc (.cells #[.slice r.ka r.kinds.length r.kc, .int .i64 r.most, .slice r.wa r.weaks.length r.wc, .slice r.sa r.surs.length r.sc] 44)).cell? ⟨w.heap.size, 2, none⟩ = some (.slice r.wa r.weaks.length r.wc) := newc 2 rfl
  have z3 : (w.alloc (.cells #[.slice r.ka r.kinds.length r.kc, .int .i64 r.most, .slice r.wa r.weaks.length r.wc, .slice r.sa r.surs.length r.sc] 44)).cell? ⟨w.heap.size, 3, none⟩ = some (.slice r.sa r.surs.length r.sc) := newc 3 rfl
  have HBN := Lib.hid (new1 (w := w) (.cells #[.slice r.ka r.kinds.length r.kc, .int .i64 r.most, .slice r.wa r.weaks.length r.wc, .slice r.sa r.surs.length r.sc] 44))
  have HIN := Lib.hid (hH.below HBN.out)
  have HTI : Hid (TchIn H A ts) := ⟨ht.row, fun t hx => ⟨(ht.inn t hx).ids, (ht.inn t hx).fds⟩⟩
  have HBT := Lib.hid ht.both
  have HCB := Lib.hid (fun W (hW : H.In W) => checkBoth_any H hU hM r A cap ts W hW ht.rul HTI.out ht.sz (by omega) (fun t hx => (ht.inn t hx).sz))
  rw [HBT.out] at HCB
  have HNM := Lib.hid (fun W (hW : H.In W) i (hi : i < ts.length) => numbered_at H A cap ts W hW ht.row (by omega) hr9.2.2 i hi)
  have HNG := Lib.hid (fun W (hW : H.In W) => newGroup_any H r A cap ts W hW HTI.out (by omega) (fun t hx => ⟨by have := (hr9.2.1 t hx).len; omega, hfit t hx, rising_ne (hr9.2.1 t hx).ids⟩))
  have HFT : Hid (∀ t ∈ ts, (∀ x ∈ t.ids, FitId x) ∧ t.ids.length ≤ 20) := fun t hx => ⟨hfit t hx, by have := (hr9.2.1 t hx).len; omega⟩
  have HSO : Hid (∀ t ∈ ts, SortI t.ids) := fun t hx => (hr9.2.1 t hx).ids.sort
  have HRR := Lib.hid hrul
  have HRI := Lib.hid ht.rul
  have HPP : Hid (∀ e w', Below w.heap.size w w' → ((¬ Tied (Share (JD r ts) ts) i j ∧ e = .returned (.tuple #[.slice none 0 0, .int .i64 16])) ∨
    (Tied (Share (JD r ts) ts) i j ∧ ∃ (v : Value) (cs : List LnkD), e = .returned (.tuple #[v, .int .i64 0]) ∧ Orow w' w.heap.size 104 3 fLnk v cs ∧ cs.length ≤ 1000 ∧ Chn (JD r ts) ts i cs j)) → ChainPost r ts i j w e w') := fun e w' h1 h2 => ⟨h1, h2⟩
  have HN1 := Lib.hid (fun W (hW : H.In W) => HNM.out W hW i hi)
  have HN2 := Lib.hid (fun W (hW : H.In W) => HNM.out W hW j hj)
  have HC0 : Hid (∀ n, n = ts[i].no → Chn (JD r ts) ts i [⟨n, zeroId⟩] i) := fun n e => by rw [e]; exact Chn.one hi
  clear hU hM ht hr9 hfit hrul hH HBT HNM
  obtain ⟨na, hna⟩ : ∃ n, n = ts[i].no := ⟨_, rfl⟩
  obtain ⟨nb, hnb⟩ : ∃ n, n = ts[j].no := ⟨_, rfl⟩
  rw [← hna] at HN1
  rw [← hnb] at HN2
  rw [← hna, ← hnb]
  replace HC0 := Lib.hid (HC0.out na hna)
  clear hna hnb
  go_enter Tryz.func58, Tryz.ntmps58
  go_upto_region 1 with (fail)
  generalize w.alloc (.cells #[.slice r.ka r.kinds.length r.kc, .int .i64 r.most, .slice r.wa r.weaks.length r.wc, .slice r.sa r.surs.length r.sc] 44) = W1 at *
  go_wp2_with fail
  refine (HCB.out W1 HIN.out).mono ?_
  rintro e W2 ⟨rfl, hb2⟩
  have HB2 := Lib.hid (HBN.out.trans (hb2.mono HBN.out.size))
  have HIN2 := Lib.hid (HIN.out.below hb2)
  have y0 := lift_cell z0 _ hb2
  have y1 := lift_cell z1 _ hb2
  have y2 := lift_cell z2 _ hb2
  have y3 := lift_cell z3 _ hb2
  clear hb2 z0 z1 z2 z3 HIN HBN HCB
  go_wp2_with fail
  refine (HN1.out W2 HIN2.out).mono ?_
  rintro e W3 ⟨rfl, hb3⟩
  have HB3 := Lib.hid (HB2.out.trans (hb3.mono HB2.out.size))
  have HIN3 := Lib.hid (HIN2.out.below hb3)
  have z0 := lift_cell y0 _ hb3
  have z1 := lift_cell y1 _ hb3
  have z2 := lift_cell y2 _ hb3
  have z3 := lift_cell y3 _ hb3
  clear hb3 y0 y1 y2 y3 HN1 HIN2 HB2
  go_wp2_with fail
  refine (HN2.out W3 HIN3.out).mono ?_
  rintro e W4 ⟨rfl, hb4⟩
  have HB4 := Lib.hid (HB3.out.trans (hb4.mono HB3.out.size))
  have HIN4 := Lib.hid (HIN3.out.below hb4)
  have y0 := lift_cell z0 _ hb4
  have y1 := lift_cell z1 _ hb4
  have y2 := lift_cell z2 _ hb4
  have y3 := lift_cell z3 _ hb4
  clear hb4 z0 z1 z2 z3 HN2 HIN3 HB3
  go_wp2_with fail
  refine (HNG.out W4 HIN4.out).mono ?_
  rintro e W5 ⟨gp, bm, nm, m, rfl, hS, hgo, hgp⟩
  have HB5 := Lib.hid (HB4.out.trans (hS.bel.mono HB4.out.size))
  obtain ⟨hle, hG⟩ := GrpIn.of hS hgo HIN4.out HRI.out HTI.out
  have HW5 : Hid ((wholeH W5).In W5) := wholeH_in W5
  have HFR := Lib.hid (fun W hW => far_any hG (HRR.out.ws).sort (by have := HRR.out.wl; omega) (by have := HRR.out.kl; omega) hlen HFT.out j hj W hW)
  have HNE := Lib.hid (fun p hp W hW => neighbours_any hG (HRR.out.ws).sort (by have := HRR.out.wl; omega) (by have := HRR.out.kl; omega) hlen HFT.out p hp W hW)
  have HSH := Lib.hid (fun p q hs W hW => shared_any hG (HRR.out.ws).sort (by have := HRR.out.wl; omega) (by have := HRR.out.kl; omega) hlen HFT.out HSO.out p q hs W hW)
  have HTR : Hid (Rw (wholeH W5) A 5 fTch ts) := hG.tch.1
  clear hS hgo hgp hle hG HNG y0 y1 y2 y3 HIN4 HB4
  generalize wholeH W5 = H5 at *
  go_wp2_with fail
  refine (HFR.out W5 HW5.out).mono ?_
  rintro e W6 ⟨F, fg, fc, frest, rfl, hK, hfg, hb6, hD⟩
  have HB6 := Lib.hid (HB5.out.trans (hb6.mono HB5.out.size))
  have HIN6 := Lib.hid (HW5.out.below hb6)
  have HK := Lib.hid hK
  have HD := Lib.hid hD
  have HCF : Hid (∀ W, Below W6.heap.size W6 W → ∀ p, p < ts.length → W.cell? ⟨fg, p, none⟩ = some (.int .i64 (F p))) := fun W hW p hp => by
    have h := (HK.out.keep hW).cell1 p (by rw [tab_len]; exact hp)
    rw [tab_get] at h
    exact h
  have cF := HCF.out W6 (Below.refl _ _) i hi
  have hii : (i : Int) < ts.length := by omega
  have hFi := hD.top i hi
  have HTI2 := Lib.hid (hD.iff i hi)
  clear hK hfg hb6 hD HFR HK
  by_cases hF : F i < 0
  · have hd1 : decide (F i < 0) = true := by simpa using hF
    have HE := Lib.hid (HPP.out _ W6 HB6.out (Or.inl ⟨fun t => by have := HTI2.out.2 (.symm t); omega, rfl⟩))
    go_wp2_with fail
    exact bodyPost_ret (by kernel_rfl) rfl HE.out
  · have hd1 : decide (F i < 0) = false := by simpa using hF
    have HTD : Hid (Tied (Share (JD r ts) ts) i j) := .symm (HTI2.out.1 (by omega))
    have HFI : Hid (0 ≤ F i) := by show _ ≤ _; omega
    have HNB := Lib.hid (new1 (w := W6) (.cells #[.int .i64 na, .int .i64 0, .string ⟨#[]⟩] 104))
    have HLB := Lib.hid (heap_alloc_new W6 (.cells #[.int .i64 na, .int .i64 0, .string ⟨#[]⟩] 104))
    clear HTI2 hF
    go_upto_region 14 with (fail)
    clear cF hd1
    generalize W6.alloc (.cells #[.int .i64 na, .int .i64 0, .string ⟨#[]⟩] 104) = W7 at *
    obtain ⟨lb, hlb⟩ : ∃ lb, lb = W6.heap.size := ⟨_, rfl⟩
    have HOL : Hid (Orow W7 lb 104 3 fLnk (.slice (some ⟨W6.heap.size, 0, none⟩) ([⟨na, zeroId⟩] : List LnkD).length 1) [⟨na, zeroId⟩]) :=
      Orow.of_blk (rest := []) (by show W7.heap[W6.heap.size]? = _; rw [HLB.out]; rfl) (by omega) (by simp only [maxLen]; omega) (by simp) (by simp)
    have HWL : Hid (w.heap.size ≤ lb ∧ lb = W6.heap.size) := ⟨by rw [hlb]; exact HB6.out.size, hlb⟩
    clear hlb HLB
    go_loopw [17, 18] (fun v t wr => ∃ (p : Nat) (va : Option Addr) (vc : Nat) (cs : List LnkD), t = .int .i64 p ∧ v = .slice va cs.length vc ∧ Hid (Chn (JD r ts) ts i cs p) ∧ Hid (0 ≤ F p ∧ (cs.length : Int) + F p = 1 + F i) ∧ Hid (Orow wr lb 104 3 fLnk (.slice va cs.length vc) cs) ∧ Hid (Below W6.heap.size W6 wr)) (fun _ t _ => (F (intOf t).toNat).toNat)
    case atStart => exact ⟨i, _, _, [⟨na, zeroId⟩], rfl, rfl, HC0, ⟨HFI.out, by simp⟩, HOL, HNB⟩
    case round =>
      obtain ⟨p, va, vc, cs, rfl, rfl, C, FF, O, B⟩ := hrel
      clear HC0 HOL HNB
      have hp := C.out.hp
      have hcl : cs.length ≤ 1000 := by have := FF.out; omega
      by_cases hpj : p = j
      · have k1 : ((p : Int) != (j : Int)) = false := by simp [hpj]
        have HC : Hid (Chn (JD r ts) ts i cs j) := hpj ▸ C.out
        have HE := Lib.hid (HPP.out _ wr (HB6.out.trans (B.out.mono HB6.out.size)) (Or.inr ⟨HTD.out, _, cs, rfl, O.out.mono HWL.out.1, hcl, HC.out⟩))
        clear C FF O B HC
        go_wp2_with fail
        exact bodyPost_ret (by kernel_rfl) rfl HE.out
      · have k1 : ((p : Int) != (j : Int)) = true := by simp; omega
        have hFp : 0 < F p := by
          have h1 := FF.out.1
          have h2 := HD.out.zo p hp
          by_cases h3 : F p = 0
          · exact absurd (h2.1 h3) hpj
          · omega
        have hFt := HD.out.top p hp
        have HN9 := Lib.hid (HNE.out p hp wr (HIN6.out.below B.out))
        go_wp2_with fail
        refine HN9.out.mono ?_
        rintro e W8 ⟨nv, zs, rfl, hO8, hb8, hzl, hzs⟩
        obtain ⟨za, zc, hzv, -⟩ := hO8.slice
        subst hzv
        have HBZ := Lib.hid (B.out.trans (hb8.mono B.out.size))
        have HO9 := Lib.hid (O.out.below hb8)
        obtain ⟨ns, hns⟩ : ∃ ns : List Nat, zs = ns.map Int.ofNat := by
          refine ⟨zs.map Int.toNat, ?_⟩
          rw [List.map_map]
          have h : ∀ z ∈ zs, (Int.ofNat ∘ Int.toNat) z = z := fun z hz => by
            obtain ⟨j, rfl, _⟩ := (hzs z).1 hz
            rfl
          exact ((List.map_congr_left h).trans (List.map_id' zs)).symm
        have HZ : Hid (∀ k ∈ ns, Share (JD r ts) ts p k) := fun k hk => by
          obtain ⟨q, e, h⟩ := (hzs (k : Int)).1 (by rw [hns]; exact List.mem_map.2 ⟨k, hk, rfl⟩)
          obtain rfl : k = q := by omega
          exact h
        have HZ2 : Hid (∀ k, Share (JD r ts) ts p k → k ∈ ns) := fun k e => by
          have h := (hzs (k : Int)).2 ⟨k, rfl, e⟩
          rw [hns] at h
          obtain ⟨k', h1, h2⟩ := List.mem_map.1 h
          obtain rfl : k' = k := by exact Int.ofNat.inj h2
          exact h1
        have HZO := Lib.hid hO8
        have hzn : zs.length = ns.length := by rw [hns, List.length_map]
        clear HN9 O B hO8 hzs hb8
        go_wp2_with fail
        go_loopw [17, 18, 69] (fun v y t wq => ∃ k : Nat, k ≤ zs.length ∧ v = .slice va cs.length vc ∧ y = .int .i64 p ∧ t = .int .i64 k ∧ Hid (∀ q (h : q < ns.length), q < k → F ns[q] ≠ F p - 1) ∧ Hid (Below W8.heap.size W8 wq)) (fun _ _ t _ => zs.length - (intOf t).toNat)
        case atStart => exact ⟨0, by omega, rfl, rfl, rfl, fun q h h2 => absurd h2 (by omega), Below.refl _ _⟩
        case round =>
          obtain ⟨k, hk, rfl, rfl, rfl, HA, HB⟩ := hrel
          by_cases hlt : k < zs.length
          · have hkn : k < ns.length := by omega
            have HB9 := Lib.hid (HBZ.out.trans (HB.out.mono HBZ.out.size))
            have HO := Lib.hid (HO9.out.below HB.out)
            obtain ⟨zg, zc2, zrest, hzv, hzle, hzB, hzq, hzm, hzk, -⟩ := (HZO.out.below HB.out).form (by intro e; rw [e] at hlt; simp at hlt)
            cases hzv
            have cz : wr.cell? ⟨zg, k, none⟩ = some (.int .i64 (ns[k] : Int)) := by
              have h := hzk.cell1 k hlt
              have e : zs[k] = ((ns[k] : Nat) : Int) := by simp [hns]
              rw [e] at h
              exact h
            have hsh := HZ.out ns[k] (List.getElem_mem hkn)
            have hqn : ns[k] < ts.length := by obtain ⟨_, h, _⟩ := hsh; exact h
            have HA2 : Hid (F ns[k] ≠ F p - 1 → ∀ q (h : q < ns.length), q < k + 1 → F ns[q] ≠ F p - 1) := fun hne q h hq => by
              by_cases e : q = k
              · subst e; exact hne
              · exact HA.out q h (by omega)
            generalize ns[k] = q at *
            have cq := HCF.out wr HB9.out q hqn
            have cp := HCF.out wr HB9.out p hp
            have hqi : (q : Int) < ts.length := by omega
            have hpi : (p : Int) < ts.length := by omega
            have hw9 : IntKind.i64.wrap (F p - 1) = F p - 1 := IntWalk.i64_in _ (by omega)
            clear hzk HA
            by_cases he : F q = F p - 1
            · have k2 : (F q == F p - 1) = true := by simpa using he
              have HBD := Lib.hid (fun n => (⟨HB9.out.os, HB9.out.tape, HB9.out.output, HB9.out.size, HB9.out.block⟩ : Below W6.heap.size W6 (wr.drewN n)))
              have HSQ := Lib.hid (fun W hW => HSH.out p q hsh W hW)
              have hpq : p ≠ q := fun e => by rw [e] at he; omega
              have HPQ := Lib.hid hpq
              have HE9 := Lib.hid he
              clear HA2 hpq he hsh
              go_wp2_with fail
              go_quiet (fail)
              clear cz cq cp hw9 k2
              have HB10 := Lib.hid (HBD.out nq)
              have HO10 : Hid (Orow (wr.drewN nq) lb 104 3 fLnk (.slice va cs.length vc) cs) := HO.out.below ⟨rfl, rfl, rfl, Nat.le_refl _, fun _ _ => rfl⟩
              generalize World.drewN wr nq = W9 at *
              clear HO HBD HB9
              go_wp2_with fail
              refine (HSQ.out W9 (HIN6.out.below HB10.out)).mono ?_
              rintro e W10 ⟨hb10, x, rfl, hJx, hpn2, hqn2, hx1, hx2⟩
              have HX : Hid (Chn (JD r ts) ts i (cs ++ [⟨ts[q].no, x⟩]) q) := C.out.step hqn HPQ.out hJx hx1 hx2
              have HXB := Lib.hid (heap_alloc_new W10 (.cells #[.int .i64 x.kind, .string x.text] 55))
              have hn1 := new1 (w := W10) (.cells #[.int .i64 x.kind, .string x.text] 55)
              have hb11 := HB10.out.trans (hb10.mono HB10.out.size)
              have HB11 := Lib.hid (hb11.trans (hn1.mono hb11.size))
              have HO11 := Lib.hid ((HO10.out.below hb10).below hn1)
              obtain ⟨b, off, hA, hcc⟩ := HTR.out q hqn
              have HCN : Hid (∀ W, H5.In W → W.cell? ⟨b, off + q * 5, none⟩ = some (.int .i64 ts[q].no)) := fun W hW => hW.cell (hcc 0 (by omega))
              subst hA
              generalize ts[q].no = no at *
              clear hb10 hb11 hn1 hcc HO10 HB10 HSQ hJx hx1 hx2 hpn2 hqn2
              go_upto_region 20 with (fail)
              generalize W10.alloc (.cells #[.int .i64 x.kind, .string x.text] 55) = W11 at *
              generalize W10.heap.size = xb at *
              have HIN11 := Lib.hid (HIN6.out.below HB11.out)
              refine wp_region_conc 9 103 (φLn (.slice va cs.length vc) (some ⟨b, off, none⟩) ts.length cap b off q no x) (fun n W' => Below W11.heap.size W11 W') (fun a b => Below a.heap.size a b) (by kernel_rfl) (by kernel_rfl) (by rfl) ((Below.refl _ _).drew) φLn_mono ?_ ?_
              · intro n o hn ho a W2 kk hkk hJ hkn
                have hcs : n = 0 ∨ n = 1 ∨ n = 2 ∨ n = 3 ∨ n = 4 ∨ n = 5 ∨ n = 6 ∨ n = 7 ∨ n = 8 := by omega
                have hin2 : H5.In W2 := HIN11.out.below hJ
                rcases hcs with rfl | rfl | rfl | rfl | rfl | rfl | rfl | rfl | rfl
                · obtain rfl := Option.some.inj ho
                  have h1 := slotA_of (hkn 17 (by decide) : a.tmps.getD 17 undef = .slice va cs.length vc)
                  clear hkn ho
                  simp only [OpV, execOp]
                  simp [go_sem, h1]
                  exact ⟨rfl, hJ, Below.refl _ _⟩
                · obtain rfl := Option.some.inj ho
                  have h1 := slotA_of (hkn 1 (by decide) : a.tmps.getD 1 undef = .slice (some ⟨b, off, none⟩) ts.length cap)
                  clear hkn ho
                  simp only [OpV, execOp]
                  simp [go_sem, h1]
                  exact ⟨rfl, hJ, Below.refl _ _⟩
                · obtain rfl := Option.some.inj ho
                  have h1 := slotA_of (hkn 20 (by decide) : a.tmps.getD 20 undef = .int .i64 q)
                  clear hkn ho
                  simp only [OpV, execOp]
                  simp [go_sem, h1]
                  exact ⟨rfl, hJ, Below.refl _ _⟩
                · obtain rfl := Option.some.inj ho
                  have h1 := slotA_of (hkn 91 (by decide) : a.tmps.getD 91 undef = .slice (some ⟨b, off, none⟩) ts.length cap)
                  have h2 := slotA_of (hkn 92 (by decide) : a.tmps.getD 92 undef = .int .i64 q)
                  clear hkn ho
                  simp only [OpV, execOp]
                  simp [go_sem, h1, h2, hqn]
                  exact ⟨rfl, hJ, Below.refl _ _⟩
                · obtain rfl := Option.some.inj ho
                  have h1 := slotA_of (hkn 93 (by decide) : a.tmps.getD 93 undef = .pointer (some ⟨b, off + q * 5, none⟩))
                  clear hkn ho
                  simp only [OpV, execOp]
                  simp [go_sem, h1]
                  exact ⟨rfl, hJ, Below.refl _ _⟩
                · obtain rfl := Option.some.inj ho
                  have h1 := slotA_of (hkn 94 (by decide) : a.tmps.getD 94 undef = .pointer (some ⟨b, off + q * 5, none⟩))
                  have c0 := HCN.out W2 hin2
                  clear hkn ho
                  simp only [OpV, execOp]
                  simp [go_sem, h1, c0]
                  exact ⟨rfl, hJ, Below.refl _ _⟩
                · obtain rfl := Option.some.inj ho
                  have h1 := slotA_of (hkn 21 (by decide) : a.tmps.getD 21 undef = .pointer (some ⟨xb, 0, none⟩))
                  have hx := (hJ.block xb (lt_of_heap HXB.out)).trans HXB.out
                  have c0 := cell_h hx 0 (v := .int .i64 x.kind) rfl
                  have c1 := cell_h hx 1 (v := .string x.text) rfl
                  clear hkn ho hx
                  simp only [OpV, execOp]
                  simp [go_sem, h1, c0, c1]
                  exact ⟨rfl, hJ, Below.refl _ _⟩
                · obtain rfl := Option.some.inj ho
                  have h1 := slotA_of (hkn 95 (by decide) : a.tmps.getD 95 undef = .int .i64 no)
                  have h2 := slotA_of (hkn 96 (by decide) : a.tmps.getD 96 undef = .agg #[.int .i64 x.kind, .string x.text])
                  clear hkn ho
                  simp only [OpV, execOp]
                  simp [go_sem, h1, h2]
                  exact ⟨rfl, hJ, Below.refl _ _⟩
                · obtain rfl := Option.some.inj ho
                  have h1 := slotA_of (hkn 97 (by decide) : a.tmps.getD 97 undef = .agg #[.int .i64 no, .int .i64 x.kind, .string x.text])
                  clear hkn ho
                  simp only [OpV, execOp]
                  simp [go_sem, h1]
                  exact ⟨⟨W2.heap.size, rfl, heap_alloc_new _ _⟩, hJ.alloc hJ.size _, new1 _⟩
              · intro xv Wv hJv hφ
                have e0 : xv 0 = .slice va cs.length vc := hφ 0 (by omega)
                obtain ⟨lq, e8, hq8⟩ : ∃ g, xv 8 = .slice (some ⟨g, 0, none⟩) 1 1 ∧ Wv.heap[g]? = some (.cells #[.int .i64 no, .int .i64 x.kind, .string x.text] 104 (0, 0)) := hφ 8 (by omega)
                have HOW := Lib.hid (HO11.out.below hJv)
                have HQQ := Lib.hid hq8
                have HBV := Lib.hid (HB11.out.trans (hJv.mono HB11.out.size))
                have hBk : lb ≤ Wv.heap.size := by have h1 := HWL.out.2; have h2 := HBV.out.size; omega
                simp only [List.drop_succ_cons, List.drop_zero, List.take_succ_cons, List.take_zero, putAll, Nat.reduceAdd, e0, e8]
                clear e0 e8 hφ hq8 hJv
                generalize xv 1 = y1
                generalize xv 2 = y2
                generalize xv 3 = y3
                generalize xv 4 = y4
                generalize xv 5 = y5
                generalize xv 6 = y6
                generalize xv 7 = y7
                go_wp2_with (at_builtin; refine wpList_app_any rfl _ _ 100 rfl lb 104 j0 (.agg #[.int .i64 0, .int .i64 0, .string ⟨#[]⟩]) 3 32 Tryz.underlying100 HJ0.out hj0 hj1 hj2 rfl (by decide) fLnk (.slice va cs.length vc) cs (by go_simp) HOW.out ⟨no, x⟩ lq #[.int .i64 no, .int .i64 x.kind, .string x.text] 104 (by go_simp) HQQ.out rfl (by simp [Value.oneCell']) (by omega) (by omega) hBk ?_; intro v1 w2 o1 g1 b1 at1; have HO12 := Lib.hid o1; have HB12 : Hid (Below W6.heap.size W6 w2) := HBV.out.trans (by rw [← HWL.out.2]; exact b1); clear o1 g1 b1 at1)
                obtain ⟨vA, vc9, hv9, -⟩ := HO12.out.slice
                subst hv9
                have FF2 : Hid (0 ≤ F q ∧ ((cs ++ [⟨no, x⟩] : List LnkD).length : Int) + F q = 1 + F i) := by
                  have h1 := FF.out
                  have h2 := HE9.out
                  refine ⟨by omega, ?_⟩
                  rw [List.length_append]
                  simp only [List.length_cons, List.length_nil]
                  omega
                have hdec : (F q).toNat < (F p).toNat := by have h2 := HE9.out; omega
                clear HOW HQQ HBV hBk HO11 HB11 HXB HCN
                refine ⟨⟨q, vA, vc9, cs ++ [⟨no, x⟩], rfl, rfl, HX, FF2, HO12, HB12⟩, ?_⟩
                simpa [intOf] using hdec
            · have k2 : (F q == F p - 1) = false := by simpa using he
              have HA3 := Lib.hid (HA2.out he)
              have HBD := Lib.hid (fun n => (⟨HB.out.os, HB.out.tape, HB.out.output, HB.out.size, HB.out.block⟩ : Below W8.heap.size W8 (wr.drewN n)))
              go_wp2_with fail
              go_quiet (fail)
              go_wp2_with fail
              go_roundw
              case rel => exact ⟨k + 1, by omega, rfl, rfl, by go_num, HA3, Lib.hid (HBD.out _)⟩
              case measure => simp [intOf]; omega
          · have hke : k = zs.length := by omega
            subst hke
            exfalso
            obtain ⟨n', hn', hs', he'⟩ := HD.out.par p hp hFp
            have hs2 : Share (JD r ts) ts p n' := by
              obtain ⟨a1, a2, x, e1, e2, e3⟩ := hs'
              exact ⟨a2, a1, x, e1, e3, e2⟩
            obtain ⟨q, hq, e⟩ := List.getElem_of_mem (HZ2.out n' hs2)
            exact HA.out q hq (by omega) (by rw [e]; exact he')
end Go.Proofs.YtbidhpgjmcedaaaGreatDoor
