/- Texts of this claim, put together: ConsA3, ConsA4, ConsA5, ConsA6, Grown, SortSta, ConsS. -/
import Derived.Test.YtmlpfbffecdepaaGreatDoorGB
import Derived.Test.YtmlpfbffecdepaaGreatDoorShelf
import Derived.Test.YtmlpfbffecdepaaGreatDoorGA
import Derived.IntWalk
import Derived.StillTailTactics
import Derived.Deep.Cut
/- Consents: the state of a grant, its rank. -/
namespace Go.Proofs.YtmlpfbffecdepaaGreatDoor
set_option linter.unusedVariables false
open Go.RowKit
set_option maxHeartbeats 2000000 in
set_option maxRecDepth 100000 in
theorem stateOf_any (H : Frz) (A : Option Addr) (cap : Nat) (l : List StD) (t : TermD) (g : StD) (at_ : Int) (w : World) (hH : H.In w) (hR : Rw H A 8 fSt l) (hl : l.length ≤ 1000000)
    (d0 : 0 ≤ t.days) (d1 : t.days ≤ 2000) (w0 : 0 ≤ t.wait) (w1 : t.wait ≤ 100000) (g0 : -1000000000000 ≤ g.at_) (g1 : g.at_ ≤ 1000000000000) :
    Calls Tryz.prog 110 #[.slice A l.length cap, .agg #[.string t.region, .int .i64 t.ch, .bool t.free, .int .i64 t.days, .int .i64 t.wait], .agg #[.int .i64 g.no, .int .i64 g.at_, .int .i64 g.kind, .string g.text, .string g.purp, .string g.region, .int .i64 g.ch, .int .i64 g.what], .int .i64 at_] w fun e w' => e = .returned (.int .i64 (stateF l t g at_)) ∧ Below w.heap.size w w' := by
  have hb := Lib.hid (new2 (w := w) (.cells #[.string t.region, .int .i64 t.ch, .bool t.free, .int .i64 t.days, .int .i64 t.wait] 60) (.cells #[.int .i64 g.no, .int .i64 g.at_, .int .i64 g.kind, .string g.text, .string g.purp, .string g.region, .int .i64 g.ch, .int .i64 g.what] 38))
  have hcf := Lib.hid (fun W hW => confirmation_any H A cap l g.purp g.at_ (g.at_ + t.wait) W hW hR hl)
  have hin := Lib.hid ((hH.alloc (.cells #[.string t.region, .int .i64 t.ch, .bool t.free, .int .i64 t.days, .int .i64 t.wait] 60)).alloc (.cells #[.int .i64 g.no, .int .i64 g.at_, .int .i64 g.kind, .string g.text, .string g.purp, .string g.region, .int .i64 g.ch, .int .i64 g.what] 38))
  clear hH hR
  by_cases h1 : t.days ≠ 0 ∧ g.at_ + t.days * 1440 ≤ at_
  · have hv : Hid (stateF l t g at_ = 7) := by show _ = _; unfold stateF; rw [if_pos h1]
    have k1 : (t.days != 0) = true := by simpa using h1.1
    have k2 : decide (g.at_ + t.days * 1440 ≤ at_) = true := by simpa using h1.2
    obtain ⟨h2, h3⟩ := h1
    clear h2
    go_enter Tryz.func110, Tryz.ntmps110
    go_wp2
    go_ret
    exact ⟨ret_int hv.out.symm, hb.out⟩
  · have hv : Hid (stateF l t g at_ = if t.wait = 0 then 2 else if (coF g.purp g.at_ (g.at_ + t.wait) l).isSome = true then 2 else if at_ ≤ g.at_ + t.wait then 8 else 9) := by show _ = _; unfold stateF; rw [if_neg h1]
    have hE : (t.days != 0) = false ∨ ((t.days != 0) = true ∧ decide (g.at_ + t.days * 1440 ≤ at_) = false) := by
      by_cases e : t.days = 0
      · left; simpa using e
      · right
        refine ⟨by simpa using e, ?_⟩
        have : ¬ g.at_ + t.days * 1440 ≤ at_ := fun c => h1 ⟨e, c⟩
        simpa using this
    clear h1
    by_cases hw0 : t.wait = 0
    · have hv2 := Lib.hid (hv.out.trans (if_pos hw0))
      have k3 : (t.wait == 0) = true := by simpa using hw0
      clear hw0
      rcases hE with k1 | ⟨k1, k2⟩
      all_goals
        go_enter Tryz.func110, Tryz.ntmps110
        go_wp2
        go_ret
        exact ⟨ret_int hv2.out.symm, hb.out⟩
    · have hv2 := Lib.hid (hv.out.trans (if_neg hw0))
      have k3 : (t.wait == 0) = false := by simpa using hw0
      clear hw0 hv
      rcases hE with k1 | ⟨k1, k2⟩
      all_goals
        go_enter Tryz.func110, Tryz.ntmps110
        go_wp2_with fail
        refine (hcf.out _ hin.out).mono ?_
        rintro e w' ⟨rfl, hb2⟩
        have hb3 := Lib.hid (hb.out.trans (hb2.mono hb.out.size))
        have hsz : ((w.alloc (.cells #[.string t.region, .int .i64 t.ch, .bool t.free, .int .i64 t.days, .int .i64 t.wait] 60)).alloc (.cells #[.int .i64 g.no, .int .i64 g.at_, .int .i64 g.kind, .string g.text, .string g.purp, .string g.region, .int .i64 g.ch, .int .i64 g.what] 38)).heap.size = w.heap.size + 2 := by simp
        have hk1 : w'.heap[w.heap.size]? = some (.cells #[.string t.region, .int .i64 t.ch, .bool t.free, .int .i64 t.days, .int .i64 t.wait] 60) := (hb2.block _ (by omega)).trans ((heap_lt (by simp)).trans (heap_alloc_new _ _))
        have hk2 : w'.heap[w.heap.size + 1]? = some (.cells #[.int .i64 g.no, .int .i64 g.at_, .int .i64 g.kind, .string g.text, .string g.purp, .string g.region, .int .i64 g.ch, .int .i64 g.what] 38) := (hb2.block _ (by omega)).trans (heap_at (by simp))
        have x4 : w'.cell? ⟨w.heap.size, 4, none⟩ = some (.int .i64 t.wait) := cell_h hk1 4 rfl
        have x1 : w'.cell? ⟨w.heap.size + 1, 1, none⟩ = some (.int .i64 g.at_) := cell_h hk2 1 rfl
        have hst : Hid (∃ d : StD, stV (coF g.purp g.at_ (g.at_ + t.wait) l) = .agg #[.int .i64 d.no, .int .i64 d.at_, .int .i64 d.kind, .string d.text, .string d.purp, .string d.region, .int .i64 d.ch, .int .i64 d.what]) := by
          show ∃ _, _
          cases coF g.purp g.at_ (g.at_ + t.wait) l with
          | none => exact ⟨zeroSt, rfl⟩
          | some d => exact ⟨d, rfl⟩
        obtain ⟨d, hd⟩ := hst.out
        rw [hd]
        clear hd hst hk1 hk2 hsz hcf hin hb2 hb
        generalize hq : (coF g.purp g.at_ (g.at_ + t.wait) l).isSome = q at hv2
        have hb4 := Lib.hid (hb3.out.alloc hb3.out.size (.cells #[.int .i64 d.no, .int .i64 d.at_, .int .i64 d.kind, .string d.text, .string d.purp, .string d.region, .int .i64 d.ch, .int .i64 d.what] 38))
        clear hq
        have x4' := oldc (o := (.cells #[.int .i64 d.no, .int .i64 d.at_, .int .i64 d.kind, .string d.text, .string d.purp, .string d.region, .int .i64 d.ch, .int .i64 d.what] 38)) x4
        have x1' := oldc (o := (.cells #[.int .i64 d.no, .int .i64 d.at_, .int .i64 d.kind, .string d.text, .string d.purp, .string d.region, .int .i64 d.ch, .int .i64 d.what] 38)) x1
        clear x4 x1
        cases q with
        | true =>
          have hv3 := Lib.hid (hv2.out.trans (if_pos rfl))
          go_wp2
          go_ret
          exact ⟨ret_int hv3.out.symm, hb4.out⟩
        | false =>
          have hv3 := Lib.hid (hv2.out.trans (if_neg (by simp)))
          by_cases hla : at_ ≤ g.at_ + t.wait
          · have hv4 := Lib.hid (hv3.out.trans (if_pos hla))
            go_wp2
            go_ret
            exact ⟨ret_int hv4.out.symm, hb4.out⟩
          · have hv4 := Lib.hid (hv3.out.trans (if_neg hla))
            have hla2 : g.at_ + t.wait < at_ := by omega
            go_wp2
            go_ret
            exact ⟨ret_int hv4.out.symm, hb4.out⟩
end Go.Proofs.YtmlpfbffecdepaaGreatDoor

/- Consents: the rank of a state; withdrawals and grants. -/
namespace Go.Proofs.YtmlpfbffecdepaaGreatDoor
set_option linter.unusedVariables false
open Go.RowKit
set_option maxHeartbeats 400000 in
theorem indexInt_any (A : Option Addr) (cap : Nat) (zs : List Int) (x : Int) (w : World) (hA : Ints w A zs) (hl : zs.length ≤ 1000000) :
    Calls Tryz.prog 144 #[.slice A zs.length cap, .int .i64 x] w fun e w' => e = .returned (.int .i64 (idxF (fun z => x == z) zs)) ∧ w = w' := by
  have HA := Lib.hid hA
  clear hA
  go_enter Tryz.func144, Tryz.ntmps144
  go_wp2
  go_loop [5, 8] (fun _ t => ∃ i : Nat, i ≤ zs.length ∧ t = .int .i64 i ∧ Hid ((zs.take i).any (fun z => x == z) = false)) (fun _ t => zs.length - (intOf t).toNat)
  case atStart => exact ⟨0, Nat.zero_le _, rfl, rfl⟩
  case round =>
    obtain ⟨i, hi, rfl, ho⟩ := hrel
    by_cases hlt : i < zs.length
    · obtain ⟨b, off, rfl, hc⟩ := HA.out i hlt
      have h1 := Lib.hid (idxF_found (p := fun z => x == z) hlt ho.out)
      have h2 := Lib.hid (any_take_succ (p := fun z => x == z) hlt ho.out)
      generalize zs[i] = z at hc h1 h2
      cases hz : (x == z) with
      | true =>
        have h3 := Lib.hid (h1.out hz)
        go_wp2
        go_ret
        exact ⟨ret_int h3.out.symm, rfl⟩
      | false =>
        have h3 := Lib.hid (h2.out hz)
        go_wp2
        go_round
        case rel => exact ⟨i + 1, by omega, by go_num, h3⟩
        case measure => simp [intOf]; omega
    · have h3 := Lib.hid (idxF_none (p := fun z => x == z) (show zs.any _ = false by have := ho.out; rwa [List.take_of_length_le (by omega)] at this))
      go_wp2
      go_ret
      exact ⟨ret_int h3.out.symm, rfl⟩
theorem rankF_eq (why : Int) : idxF (fun z => why == z) [2, 8, 9, 7] = rankF why := by
  unfold rankF idxF
  by_cases h1 : why = 2
  · subst h1; rfl
  · by_cases h2 : why = 8
    · subst h2; rfl
    · by_cases h3 : why = 9
      · subst h3; rfl
      · by_cases h4 : why = 7
        · subst h4; rfl
        · have e : ([2, 8, 9, 7] : List Int).findIdx? (fun z => why == z) = none := by simp [List.findIdx?_cons, h1, h2, h3, h4]
          rw [e, if_neg h1, if_neg h2, if_neg h3, if_neg h4]
set_option maxHeartbeats 400000 in
theorem rank_any (why : Int) (w : World) : Calls Tryz.prog 111 #[.int .i64 why] w fun e w' => e = .returned (.int .i64 (rankF why)) ∧ Below w.heap.size w w' := by
  have HIN : Hid (Ints (w.alloc (.cells #[.int .i64 2, .int .i64 8, .int .i64 9, .int .i64 7] 3)) (some ⟨w.heap.size, 0, none⟩) [2, 8, 9, 7]) := Ints.of_row (heap_at rfl) rfl
  have HB := Lib.hid (new1 (w := w) (.cells #[.int .i64 2, .int .i64 8, .int .i64 9, .int .i64 7] 3))
  go_enter Tryz.func111, Tryz.ntmps111
  go_wp2_with fail
  refine (indexInt_any _ _ [2, 8, 9, 7] why _ HIN.out (by simp)).mono ?_
  rintro e w' ⟨rfl, rfl⟩
  rw [rankF_eq]
  generalize hq : rankF why = q
  have HQ := Lib.hid hq
  clear hq
  go_wp2_with fail
  go_ret
  exact ⟨ret_int HQ.out.symm, HB.out⟩
theorem infoSta : (Tryz.prog.info? 38).map (fun i => (i.zero, i.size, i.bytes)) = some (some (.agg #[.int .i64 0, .int .i64 0, .int .i64 0, .string ⟨#[]⟩, .string ⟨#[]⟩, .string ⟨#[]⟩, .int .i64 0, .int .i64 0]), 8, 88) := by kernel_rfl
theorem wdF_snoc {purp : ByteArray} {l : List StD} {i : Nat} (h : i < l.length) : wdF purp (l.take (i + 1)) = wdStep purp (wdF purp (l.take i)) l[i] := by
  unfold wdF
  rw [List.take_succ_eq_append_getElem h, List.foldl_append]
  rfl
theorem filter_snoc {D : Type} (p : D → Bool) {l : List D} {i : Nat} (h : i < l.length) : (l.take (i + 1)).filter p = (l.take i).filter p ++ (if p l[i] = true then [l[i]] else []) := by
  rw [List.take_succ_eq_append_getElem h, List.filter_append]
  simp [List.filter_cons]
theorem grown_setC {a w : World} {g : Nat} (h : a.grownBy w (some g)) (o : Nat) (v : Value) : a.grownBy (w.setCell ⟨g, o, none⟩ v) (some g) :=
  ⟨h.os, h.tape, h.output, by simpa [World.setCell] using h.size, fun k hk hne => (Below.heap_setCell w _ v k (fun e => hne (by rw [e]))).trans (h.block k hk hne)⟩
theorem grown_set2 (w1 : World) (g : Nat) (a0 a1 : Value) : w1.grownBy ((w1.setCell ⟨g, 0, none⟩ a0).setCell ⟨g, 1, none⟩ a1) (some g) := (grown_setC (grown_setC (World.grownBy.refl _ _) 0 a0) 1 a1)
theorem grown_set3 (w1 : World) (g : Nat) (a0 a1 a2 : Value) : w1.grownBy (((w1.setCell ⟨g, 0, none⟩ a0).setCell ⟨g, 1, none⟩ a1).setCell ⟨g, 2, none⟩ a2) (some g) := (grown_setC (grown_setC (grown_setC (World.grownBy.refl _ _) 0 a0) 1 a1) 2 a2)
theorem grown_set5 (w1 : World) (g : Nat) (a0 a1 a2 a3 a4 : Value) : w1.grownBy (((((w1.setCell ⟨g, 0, none⟩ a0).setCell ⟨g, 1, none⟩ a1).setCell ⟨g, 2, none⟩ a2).setCell ⟨g, 3, none⟩ a3).setCell ⟨g, 4, none⟩ a4) (some g) := (grown_setC (grown_setC (grown_setC (grown_setC (grown_setC (World.grownBy.refl _ _) 0 a0) 1 a1) 2 a2) 3 a3) 4 a4)
theorem grown_set8 (w1 : World) (g : Nat) (a0 a1 a2 a3 a4 a5 a6 a7 : Value) : w1.grownBy ((((((((w1.setCell ⟨g, 0, none⟩ a0).setCell ⟨g, 1, none⟩ a1).setCell ⟨g, 2, none⟩ a2).setCell ⟨g, 3, none⟩ a3).setCell ⟨g, 4, none⟩ a4).setCell ⟨g, 5, none⟩ a5).setCell ⟨g, 6, none⟩ a6).setCell ⟨g, 7, none⟩ a7) (some g) := (grown_setC (grown_setC (grown_setC (grown_setC (grown_setC (grown_setC (grown_setC (grown_setC (World.grownBy.refl _ _) 0 a0) 1 a1) 2 a2) 3 a3) 4 a4) 5 a5) 6 a6) 7 a7)
theorem drew_heap {w : World} {g : Nat} {o : Obj} (h : w.heap[g]? = some o) : w.drew.heap[g]? = some o := h
theorem Orow.drew {D : Type} {w : World} {B T k : Nat} {f : D → Nat → Value} {v : Value} {ds : List D} (h : Orow w B T k f v ds) : Orow w.drew B T k f v ds := h
theorem stV_eq {o : Option StD} {d : StD} (h : d = o.getD zeroSt) : stV o = .agg #[.int .i64 d.no, .int .i64 d.at_, .int .i64 d.kind, .string d.text, .string d.purp, .string d.region, .int .i64 d.ch, .int .i64 d.what] := by
  subst h
  cases o <;> rfl
/-- What stands after i rounds of the first loop. -/
def G1 (w : World) (purp : ByteArray) (l : List StD) (i : Nat) (o : Option StD) (d : StD) (wr : World) : Prop := o = wdF purp (l.take i) ∧ d = o.getD zeroSt ∧ Below w.heap.size w wr ∧ wr.heap[w.heap.size]? = some (.cells #[.int .i64 d.no, .int .i64 d.at_, .int .i64 d.kind, .string d.text, .string d.purp, .string d.region, .int .i64 d.ch, .int .i64 d.what] 38)
def GrPost (w : World) (purp : ByteArray) (l : List StD) (e : Ending) (w' : World) : Prop := ∃ v, e = .returned (.tuple #[v, stV (wdF purp l), .bool (wdF purp l).isSome]) ∧ Orow w' w.heap.size 38 8 fSt v (grF purp l) ∧ Below w.heap.size w w'
set_option maxHeartbeats 4000000 in
set_option maxRecDepth 100000 in
theorem grants_any (H : Frz) (A : Option Addr) (cap : Nat) (l : List StD) (purp : ByteArray) (w : World) (hH : H.In w) (hR : Rw H A 8 fSt l) (hl : l.length ≤ 1000000) :
    Calls Tryz.prog 109 #[.slice A l.length cap, .string purp] w (GrPost w purp l) := by
  obtain ⟨i0, hi0, hz0, hz1, hz2⟩ := info_parts infoSta
  have HR := Lib.hid hR
  have HH := Lib.hid hH
  have HG0 : Hid (G1 w purp l 0 none zeroSt (w.alloc (.cells #[.int .i64 zeroSt.no, .int .i64 zeroSt.at_, .int .i64 zeroSt.kind, .string zeroSt.text, .string zeroSt.purp, .string zeroSt.region, .int .i64 zeroSt.ch, .int .i64 zeroSt.what] 38))) := ⟨rfl, rfl, new1 _, heap_alloc_new _ _⟩
  clear hR hH
  go_enter Tryz.func109, Tryz.ntmps109
  go_wp2_with fail
  go_loopw [6, 13] (fun s t wr => ∃ (i : Nat) (o : Option StD) (d : StD), i ≤ l.length ∧ t = .int .i64 i ∧ s = .bool o.isSome ∧ Hid (G1 w purp l i o d wr)) (fun _ t _ => l.length - (intOf t).toNat)
  case atStart => exact ⟨0, none, zeroSt, by omega, rfl, rfl, HG0⟩
  case round =>
    obtain ⟨i, o, d0, hi, rfl, rfl, hG⟩ := hrel
    obtain ⟨ho, hd0, hb, hk⟩ := hG.out
    clear HG0
    by_cases hlt : i < l.length
    · obtain ⟨b, off, rfl, hbl, hc⟩ := HR.out.at_ (HH.out.below hb) hlt (by omega)
      have c0 : wr.cell? ⟨b, off + i * 8, none⟩ = some (.int .i64 l[i].no) := hc 0 (by omega)
      have c1 : wr.cell? ⟨b, off + i * 8 + 1, none⟩ = some (.int .i64 l[i].at_) := hc 1 (by omega)
      have c2 : wr.cell? ⟨b, off + i * 8 + 2, none⟩ = some (.int .i64 l[i].kind) := hc 2 (by omega)
      have c3 : wr.cell? ⟨b, off + i * 8 + 3, none⟩ = some (.string l[i].text) := hc 3 (by omega)
      have c4 : wr.cell? ⟨b, off + i * 8 + 4, none⟩ = some (.string l[i].purp) := hc 4 (by omega)
      have c5 : wr.cell? ⟨b, off + i * 8 + 5, none⟩ = some (.string l[i].region) := hc 5 (by omega)
      have c6 : wr.cell? ⟨b, off + i * 8 + 6, none⟩ = some (.int .i64 l[i].ch) := hc 6 (by omega)
      have c7 : wr.cell? ⟨b, off + i * 8 + 7, none⟩ = some (.int .i64 l[i].what) := hc 7 (by omega)
      have HO : Hid (wdF purp (l.take (i + 1)) = wdStep purp o l[i]) := (wdF_snoc hlt).trans (by rw [ho])
      clear hc
      generalize l[i] = d at *
      have z0 : (wr.alloc (.cells #[.int .i64 d.no, .int .i64 d.at_, .int .i64 d.kind, .string d.text, .string d.purp, .string d.region, .int .i64 d.ch, .int .i64 d.what] 38)).cell? ⟨wr.heap.size, 0, none⟩ = some (.int .i64 d.no) := newc 0 rfl
      have z1 : (wr.alloc (.cells #[.int .i64 d.no, .int .i64 d.at_, .int .i64 d.kind, .string d.text, .string d.purp, .string d.region, .int .i64 d.ch, .int .i64 d.what] 38)).cell? ⟨wr.heap.size, 1, none⟩ = some (.int .i64 d.at_) := newc 1 rfl
      have z2 : (wr.alloc (.cells #[.int .i64 d.no, .int .i64 d.at_, .int .i64 d.kind, .string d.text, .string d.purp, .string d.region, .int .i64 d.ch, .int .i64 d.what] 38)).cell? ⟨wr.heap.size, 2, none⟩ = some (.int .i64 d.kind) := newc 2 rfl
      have z3 : (wr.alloc (.cells #[.int .i64 d.no, .int .i64 d.at_, .int .i64 d.kind, .string d.text, .string d.purp, .string d.region, .int .i64 d.ch, .int .i64 d.what] 38)).cell? ⟨wr.heap.size, 3, none⟩ = some (.string d.text) := newc 3 rfl
      have z4 : (wr.alloc (.cells #[.int .i64 d.no, .int .i64 d.at_, .int .i64 d.kind, .string d.text, .string d.purp, .string d.region, .int .i64 d.ch, .int .i64 d.what] 38)).cell? ⟨wr.heap.size, 4, none⟩ = some (.string d.purp) := newc 4 rfl
      have z5 : (wr.alloc (.cells #[.int .i64 d.no, .int .i64 d.at_, .int .i64 d.kind, .string d.text, .string d.purp, .string d.region, .int .i64 d.ch, .int .i64 d.what] 38)).cell? ⟨wr.heap.size, 5, none⟩ = some (.string d.region) := newc 5 rfl
      have z6 : (wr.alloc (.cells #[.int .i64 d.no, .int .i64 d.at_, .int .i64 d.kind, .string d.text, .string d.purp, .string d.region, .int .i64 d.ch, .int .i64 d.what] 38)).cell? ⟨wr.heap.size, 6, none⟩ = some (.int .i64 d.ch) := newc 6 rfl
      have z7 : (wr.alloc (.cells #[.int .i64 d.no, .int .i64 d.at_, .int .i64 d.kind, .string d.text, .string d.purp, .string d.region, .int .i64 d.ch, .int .i64 d.what] 38)).cell? ⟨wr.heap.size, 7, none⟩ = some (.int .i64 d.what) := newc 7 rfl
      have HBN := Lib.hid (new1 (w := wr) (.cells #[.int .i64 d.no, .int .i64 d.at_, .int .i64 d.kind, .string d.text, .string d.purp, .string d.region, .int .i64 d.ch, .int .i64 d.what] 38))
      go_upto_region 4 with (fail)
      clear c0 c1 c2 c3 c4 c5 c6 c7
      have hk1 := (HBN.out.block _ (lt_of_heap hk)).trans hk
      have hne : ¬ wr.heap.size = w.heap.size := by have := lt_of_heap hk; omega
      have hne' : ¬ w.heap.size = wr.heap.size := by omega
      generalize wr.alloc (.cells #[.int .i64 d.no, .int .i64 d.at_, .int .i64 d.kind, .string d.text, .string d.purp, .string d.region, .int .i64 d.ch, .int .i64 d.what] 38) = W1 at *
      have HB1 := Lib.hid (hb.trans (HBN.out.mono hb.size))
      have x0 : W1.cell? ⟨w.heap.size, 0, none⟩ = some (.int .i64 d0.no) := cell_h hk1 0 rfl
      have y0 := froz_h hk1 0
      have x1 : W1.cell? ⟨w.heap.size, 1, none⟩ = some (.int .i64 d0.at_) := cell_h hk1 1 rfl
      have y1 := froz_h hk1 1
      have x2 : W1.cell? ⟨w.heap.size, 2, none⟩ = some (.int .i64 d0.kind) := cell_h hk1 2 rfl
      have y2 := froz_h hk1 2
      have x3 : W1.cell? ⟨w.heap.size, 3, none⟩ = some (.string d0.text) := cell_h hk1 3 rfl
      have y3 := froz_h hk1 3
      have x4 : W1.cell? ⟨w.heap.size, 4, none⟩ = some (.string d0.purp) := cell_h hk1 4 rfl
      have y4 := froz_h hk1 4
      have x5 : W1.cell? ⟨w.heap.size, 5, none⟩ = some (.string d0.region) := cell_h hk1 5 rfl
      have y5 := froz_h hk1 5
      have x6 : W1.cell? ⟨w.heap.size, 6, none⟩ = some (.int .i64 d0.ch) := cell_h hk1 6 rfl
      have y6 := froz_h hk1 6
      have x7 : W1.cell? ⟨w.heap.size, 7, none⟩ = some (.int .i64 d0.what) := cell_h hk1 7 rfl
      have y7 := froz_h hk1 7
      have HK1 := Lib.hid hk1
      have HO0 := Lib.hid ho
      have HD0 := Lib.hid hd0
      clear hb HBN hk1 hk hG ho hd0
      by_cases hall : d.what = 3 ∧ eqS d.purp purp = true ∧ (o.isNone = true ∨ (o.getD zeroSt).at_ < d.at_)
      · have HS : Hid (wdF purp (l.take (i + 1)) = some d) := HO.out.trans (by unfold wdStep; rw [if_pos hall])
        obtain ⟨h1, h2, h3⟩ := hall
        have k1 : (d.what == 3) = true := by simpa using h1
        have k2 : (d.purp.toList == purp.toList) = true := h2
        have HF : Hid (G1 w purp l (i + 1) (some d) d ((((((((W1.setCell ⟨w.heap.size, 0, none⟩ (.int .i64 d.no)).setCell ⟨w.heap.size, 1, none⟩ (.int .i64 d.at_)).setCell ⟨w.heap.size, 2, none⟩ (.int .i64 d.kind)).setCell ⟨w.heap.size, 3, none⟩ (.string d.text)).setCell ⟨w.heap.size, 4, none⟩ (.string d.purp)).setCell ⟨w.heap.size, 5, none⟩ (.string d.region)).setCell ⟨w.heap.size, 6, none⟩ (.int .i64 d.ch)).setCell ⟨w.heap.size, 7, none⟩ (.int .i64 d.what))) := ⟨HS.out.symm, rfl, below_set8 HB1.out (Nat.le_refl _) _ _ _ _ _ _ _ _, set8 HK1.out _ _ _ _ _ _ _ _⟩
        rw [← HD0.out] at h3
        clear h1 h2
        cases o with
        | none =>
          clear h3
          go_wp2_with fail
          go_roundw
          case rel => exact ⟨i + 1, some d, d, by omega, by go_num, rfl, HF⟩
          case measure => simp [intOf]; omega
        | some o =>
          have k3 : decide (d0.at_ < d.at_) = true := by
            rcases h3 with h3 | h3
            · cases h3
            · simpa using h3
          clear h3
          go_wp2_with fail
          go_roundw
          case rel => exact ⟨i + 1, some d, d, by omega, by go_num, rfl, HF⟩
          case measure => simp [intOf]; omega
      · have HS : Hid (wdF purp (l.take (i + 1)) = o) := HO.out.trans (by unfold wdStep; rw [if_neg hall])
        have HF : Hid (G1 w purp l (i + 1) o d0 W1) := ⟨HS.out.symm, HD0.out, HB1.out, HK1.out⟩
        cases k1 : (d.what == 3) with
        | false =>
          clear hall
          go_wp2_with fail
          go_roundw
          case rel => exact ⟨i + 1, o, d0, by omega, by go_num, rfl, HF⟩
          case measure => simp [intOf]; omega
        | true =>
          cases k2 : (d.purp.toList == purp.toList) with
          | false =>
            clear hall
            go_wp2_with fail
            go_roundw
            case rel => exact ⟨i + 1, o, d0, by omega, by go_num, rfl, HF⟩
            case measure => simp [intOf]; omega
          | true =>
            have h4 : ¬ (o.isNone = true ∨ d0.at_ < d.at_) := by
              intro c
              rw [HD0.out] at c
              exact hall ⟨by simpa using k1, k2, c⟩
            cases o with
            | none => exact absurd (Or.inl rfl) h4
            | some o =>
              have k3 : decide (d0.at_ < d.at_) = false := by
                have : ¬ d0.at_ < d.at_ := fun c => h4 (Or.inr c)
                simpa using this
              clear hall h4
              go_wp2_with fail
              go_roundw
              case rel => exact ⟨i + 1, some o, d0, by omega, by go_num, rfl, HF⟩
              case measure => simp [intOf]; omega
    · have hie : i = l.length := by omega
      subst hie
      have HO : Hid (wdF purp l = o) := by rw [ho, List.take_length]; exact rfl
      have HOR : Hid (Orow wr (w.heap.size + 1) 38 8 fSt (.slice none 0 0) ((l.take 0).filter (grB purp o))) := Orow.nil _ _ _ _ _
      have HB := Lib.hid hb
      have HK := Lib.hid hk
      have HD0 := Lib.hid hd0
      clear ho hb hk hG hd0
      obtain ⟨wo, rfl⟩ : ∃ wo : World, wo = wr := ⟨_, rfl⟩
      go_wp2_with fail
      generalize hq : o.isSome = q
      have HQ := Lib.hid hq
      clear hq
      go_loopw [4, 41] (fun v t wr => ∃ (i : Nat), i ≤ l.length ∧ t = .int .i64 i ∧ Hid (Orow wr (w.heap.size + 1) 38 8 fSt v ((l.take i).filter (grB purp o))) ∧ Hid (Below w.heap.size w wr) ∧ Hid (wr.heap[w.heap.size]? = some (.cells #[.int .i64 d0.no, .int .i64 d0.at_, .int .i64 d0.kind, .string d0.text, .string d0.purp, .string d0.region, .int .i64 d0.ch, .int .i64 d0.what] 38))) (fun _ t _ => l.length - (intOf t).toNat)
      case atStart => exact ⟨0, by omega, rfl, HOR, HB, HK⟩
      case round =>
        obtain ⟨i, hi, rfl, hor, hb, hkr⟩ := hrel
        clear HOR HB HK
        by_cases hlt : i < l.length
        · obtain ⟨b, off, rfl, hbl, hc⟩ := HR.out.at_ (HH.out.below hb.out) hlt (by omega)
          have c0 : wr.cell? ⟨b, off + i * 8, none⟩ = some (.int .i64 l[i].no) := hc 0 (by omega)
          have c1 : wr.cell? ⟨b, off + i * 8 + 1, none⟩ = some (.int .i64 l[i].at_) := hc 1 (by omega)
          have c2 : wr.cell? ⟨b, off + i * 8 + 2, none⟩ = some (.int .i64 l[i].kind) := hc 2 (by omega)
          have c3 : wr.cell? ⟨b, off + i * 8 + 3, none⟩ = some (.string l[i].text) := hc 3 (by omega)
          have c4 : wr.cell? ⟨b, off + i * 8 + 4, none⟩ = some (.string l[i].purp) := hc 4 (by omega)
          have c5 : wr.cell? ⟨b, off + i * 8 + 5, none⟩ = some (.string l[i].region) := hc 5 (by omega)
          have c6 : wr.cell? ⟨b, off + i * 8 + 6, none⟩ = some (.int .i64 l[i].ch) := hc 6 (by omega)
          have c7 : wr.cell? ⟨b, off + i * 8 + 7, none⟩ = some (.int .i64 l[i].what) := hc 7 (by omega)
          have HSN := Lib.hid (filter_snoc (grB purp o) hlt)
          have hlen : ((l.take i).filter (grB purp o)).length ≤ 1000000 := by
            have := List.length_filter_le (grB purp o) (l.take i)
            have := List.length_take_le i l
            omega
          clear hc
          generalize l[i] = d at *
          have z0 : (wr.alloc (.cells #[.int .i64 d.no, .int .i64 d.at_, .int .i64 d.kind, .string d.text, .string d.purp, .string d.region, .int .i64 d.ch, .int .i64 d.what] 38)).cell? ⟨wr.heap.size, 0, none⟩ = some (.int .i64 d.no) := newc 0 rfl
          have z1 : (wr.alloc (.cells #[.int .i64 d.no, .int .i64 d.at_, .int .i64 d.kind, .string d.text, .string d.purp, .string d.region, .int .i64 d.ch, .int .i64 d.what] 38)).cell? ⟨wr.heap.size, 1, none⟩ = some (.int .i64 d.at_) := newc 1 rfl
          have z2 : (wr.alloc (.cells #[.int .i64 d.no, .int .i64 d.at_, .int .i64 d.kind, .string d.text, .string d.purp, .string d.region, .int .i64 d.ch, .int .i64 d.what] 38)).cell? ⟨wr.heap.size, 2, none⟩ = some (.int .i64 d.kind) := newc 2 rfl
          have z3 : (wr.alloc (.cells #[.int .i64 d.no, .int .i64 d.at_, .int .i64 d.kind, .string d.text, .string d.purp, .string d.region, .int .i64 d.ch, .int .i64 d.what] 38)).cell? ⟨wr.heap.size, 3, none⟩ = some (.string d.text) := newc 3 rfl
          have z4 : (wr.alloc (.cells #[.int .i64 d.no, .int .i64 d.at_, .int .i64 d.kind, .string d.text, .string d.purp, .string d.region, .int .i64 d.ch, .int .i64 d.what] 38)).cell? ⟨wr.heap.size, 4, none⟩ = some (.string d.purp) := newc 4 rfl
          have z5 : (wr.alloc (.cells #[.int .i64 d.no, .int .i64 d.at_, .int .i64 d.kind, .string d.text, .string d.purp, .string d.region, .int .i64 d.ch, .int .i64 d.what] 38)).cell? ⟨wr.heap.size, 5, none⟩ = some (.string d.region) := newc 5 rfl
          have z6 : (wr.alloc (.cells #[.int .i64 d.no, .int .i64 d.at_, .int .i64 d.kind, .string d.text, .string d.purp, .string d.region, .int .i64 d.ch, .int .i64 d.what] 38)).cell? ⟨wr.heap.size, 6, none⟩ = some (.int .i64 d.ch) := newc 6 rfl
          have z7 : (wr.alloc (.cells #[.int .i64 d.no, .int .i64 d.at_, .int .i64 d.kind, .string d.text, .string d.purp, .string d.region, .int .i64 d.ch, .int .i64 d.what] 38)).cell? ⟨wr.heap.size, 7, none⟩ = some (.int .i64 d.what) := newc 7 rfl
          have HBN := Lib.hid (new1 (w := wr) (.cells #[.int .i64 d.no, .int .i64 d.at_, .int .i64 d.kind, .string d.text, .string d.purp, .string d.region, .int .i64 d.ch, .int .i64 d.what] 38))
          go_upto_region 10 with (fail)
          clear c0 c1 c2 c3 c4 c5 c6 c7
          have hk1 := (HBN.out.block _ (lt_of_heap hkr.out)).trans hkr.out
          have hne : ¬ wr.heap.size = w.heap.size := by have := lt_of_heap hkr.out; omega
          have hne' : ¬ w.heap.size = wr.heap.size := by omega
          have HO1 := Lib.hid (hor.out.below HBN.out)
          generalize wr.alloc (.cells #[.int .i64 d.no, .int .i64 d.at_, .int .i64 d.kind, .string d.text, .string d.purp, .string d.region, .int .i64 d.ch, .int .i64 d.what] 38) = W1 at *
          have HB1 := Lib.hid (hb.out.trans (HBN.out.mono hb.out.size))
          have x0 : W1.cell? ⟨w.heap.size, 0, none⟩ = some (.int .i64 d0.no) := cell_h hk1 0 rfl
          have y0 := froz_h hk1 0
          have x1 : W1.cell? ⟨w.heap.size, 1, none⟩ = some (.int .i64 d0.at_) := cell_h hk1 1 rfl
          have y1 := froz_h hk1 1
          have x2 : W1.cell? ⟨w.heap.size, 2, none⟩ = some (.int .i64 d0.kind) := cell_h hk1 2 rfl
          have y2 := froz_h hk1 2
          have x3 : W1.cell? ⟨w.heap.size, 3, none⟩ = some (.string d0.text) := cell_h hk1 3 rfl
          have y3 := froz_h hk1 3
          have x4 : W1.cell? ⟨w.heap.size, 4, none⟩ = some (.string d0.purp) := cell_h hk1 4 rfl
          have y4 := froz_h hk1 4
          have x5 : W1.cell? ⟨w.heap.size, 5, none⟩ = some (.string d0.region) := cell_h hk1 5 rfl
          have y5 := froz_h hk1 5
          have x6 : W1.cell? ⟨w.heap.size, 6, none⟩ = some (.int .i64 d0.ch) := cell_h hk1 6 rfl
          have y6 := froz_h hk1 6
          have x7 : W1.cell? ⟨w.heap.size, 7, none⟩ = some (.int .i64 d0.what) := cell_h hk1 7 rfl
          have y7 := froz_h hk1 7
          have HK1 := Lib.hid hk1
          have hBw : w.heap.size + 1 ≤ W1.heap.size := lt_of_heap hk1
          generalize (l.take i).filter (grB purp o) = ds at HO1 HSN hlen
          clear hb HBN hk1 hkr hor
          by_cases hall : grB purp o d = true
          · have HS := Lib.hid (HSN.out.trans (by rw [if_pos hall]))
            have hpp : d.what = 1 ∧ eqS d.purp purp = true ∧ (o.isNone = true ∨ d0.at_ < d.at_) := by
              rw [HD0.out]
              simpa [grB, and_assoc] using hall
            obtain ⟨h1, h2, h3⟩ := hpp
            have k1 : (d.what == 1) = true := by simpa using h1
            have k2 : (d.purp.toList == purp.toList) = true := h2
            clear h1 h2 hall
            have hE : q = false ∨ (q = true ∧ decide (d0.at_ < d.at_) = true) := by
              rw [← HQ.out]
              cases o with
              | none => left; rfl
              | some o =>
                right
                rcases h3 with h3 | h3
                · cases h3
                · exact ⟨rfl, by simpa using h3⟩
            clear h3
            rcases hE with rfl | ⟨rfl, k3⟩
            all_goals
              go_wp2_with (at_builtin; refine wpList_app_at rfl _ _ 87 rfl (w.heap.size + 1) 38 i0 (.agg #[.int .i64 0, .int .i64 0, .int .i64 0, .string ⟨#[]⟩, .string ⟨#[]⟩, .string ⟨#[]⟩, .int .i64 0, .int .i64 0]) 8 88 Tryz.underlying87 hi0 hz0 hz1 hz2 rfl (by decide) fSt _ ds rfl HO1.out d #[.int .i64 d.no, .int .i64 d.at_, .int .i64 d.kind, .string d.text, .string d.purp, .string d.region, .int .i64 d.ch, .int .i64 d.what] 38 rfl rfl (by simp [Value.oneCell']) (by omega) (by omega) hBw ?_; intro v1 w2 o1 g1 b1 at1; have HO2 := Lib.hid o1; have HB2 := Lib.hid (HB1.out.trans (b1.mono (by omega))); have HK2 := Lib.hid ((b1.block w.heap.size (by omega)).trans HK1.out); clear o1 g1 b1 at1)
              rw [← HS.out] at HO2
              go_roundw
              case rel => exact ⟨i + 1, by omega, by go_num, HO2, HB2, HK2⟩
              case measure => simp [intOf]; omega
          · have HS := Lib.hid (HSN.out.trans (by rw [if_neg hall, List.append_nil]))
            rw [← HS.out] at HO1
            cases k1 : (d.what == 1) with
            | false =>
              clear hall
              go_wp2_with fail
              go_roundw
              case rel => exact ⟨i + 1, by omega, by go_num, HO1, HB1, HK1⟩
              case measure => simp [intOf]; omega
            | true =>
              cases k2 : (d.purp.toList == purp.toList) with
              | false =>
                clear hall
                go_wp2_with fail
                go_roundw
                case rel => exact ⟨i + 1, by omega, by go_num, HO1, HB1, HK1⟩
                case measure => simp [intOf]; omega
              | true =>
                have h4 : q = true ∧ decide (d0.at_ < d.at_) = false := by
                  rw [← HQ.out]
                  have h5 : ¬ (o.isNone = true ∨ d0.at_ < d.at_) := by
                    intro c
                    rw [HD0.out] at c
                    exact hall (by
                      have e1 : d.what = 1 := by simpa using k1
                      have e2 : eqS d.purp purp = true := k2
                      rw [show grB purp o d = (decide (d.what = 1) && eqS d.purp purp && (o.isNone || decide ((o.getD zeroSt).at_ < d.at_))) from rfl, e1, e2]; simpa using c)
                  cases o with
                  | none => exact absurd (Or.inl rfl) h5
                  | some o => exact ⟨rfl, by have : ¬ d0.at_ < d.at_ := fun c => h5 (Or.inr c); simpa using this⟩
                obtain ⟨k4, k3⟩ := h4
                clear hall
                subst k4
                go_wp2_with fail
                go_roundw
                case rel => exact ⟨i + 1, by omega, by go_num, HO1, HB1, HK1⟩
                case measure => simp [intOf]; omega
        · have hie : i = l.length := by omega
          subst hie
          obtain ⟨vg, rfl⟩ : ∃ vg : Value, vg = u4 := ⟨_, rfl⟩
          have HO2 : Hid (Orow wr (w.heap.size + 1) 38 8 fSt vg (grF purp l)) := by
            have := hor.out
            rw [List.take_length, ← HO.out] at this
            exact this
          have hk1 := hkr.out
          have x0 : wr.cell? ⟨w.heap.size, 0, none⟩ = some (.int .i64 d0.no) := cell_h hk1 0 rfl
          have y0 := froz_h hk1 0
          have x1 : wr.cell? ⟨w.heap.size, 1, none⟩ = some (.int .i64 d0.at_) := cell_h hk1 1 rfl
          have y1 := froz_h hk1 1
          have x2 : wr.cell? ⟨w.heap.size, 2, none⟩ = some (.int .i64 d0.kind) := cell_h hk1 2 rfl
          have y2 := froz_h hk1 2
          have x3 : wr.cell? ⟨w.heap.size, 3, none⟩ = some (.string d0.text) := cell_h hk1 3 rfl
          have y3 := froz_h hk1 3
          have x4 : wr.cell? ⟨w.heap.size, 4, none⟩ = some (.string d0.purp) := cell_h hk1 4 rfl
          have y4 := froz_h hk1 4
          have x5 : wr.cell? ⟨w.heap.size, 5, none⟩ = some (.string d0.region) := cell_h hk1 5 rfl
          have y5 := froz_h hk1 5
          have x6 : wr.cell? ⟨w.heap.size, 6, none⟩ = some (.int .i64 d0.ch) := cell_h hk1 6 rfl
          have y6 := froz_h hk1 6
          have x7 : wr.cell? ⟨w.heap.size, 7, none⟩ = some (.int .i64 d0.what) := cell_h hk1 7 rfl
          have y7 := froz_h hk1 7
          have HK9 := Lib.hid (set8 hk1 (.int .i64 d0.no) (.int .i64 d0.at_) (.int .i64 d0.kind) (.string d0.text) (.string d0.purp) (.string d0.region) (.int .i64 d0.ch) (.int .i64 d0.what))
          have HB9 := Lib.hid (below_set8 hb.out (Nat.le_refl _) (.int .i64 d0.no) (.int .i64 d0.at_) (.int .i64 d0.kind) (.string d0.text) (.string d0.purp) (.string d0.region) (.int .i64 d0.ch) (.int .i64 d0.what))
          have HO9 := Lib.hid ((HO2.out.far (grown_set8 wr w.heap.size (.int .i64 d0.no) (.int .i64 d0.at_) (.int .i64 d0.kind) (.string d0.text) (.string d0.purp) (.string d0.region) (.int .i64 d0.ch) (.int .i64 d0.what)) (by omega)).mono (show w.heap.size ≤ w.heap.size + 1 by omega)).drew
          have HK8 := Lib.hid (drew_heap HK9.out)
          have HB8 := Lib.hid HB9.out.drew
          have HSV := Lib.hid (stV_eq HD0.out)
          clear hk1
          go_wp2_with fail
          go_region
          go_wp2_with fail
          generalize World.drew _ = W9 at *
          have u0 := cell_h HK8.out 0 (v := .int .i64 d0.no) rfl
          have u1 := cell_h HK8.out 1 (v := .int .i64 d0.at_) rfl
          have u2 := cell_h HK8.out 2 (v := .int .i64 d0.kind) rfl
          have u3 := cell_h HK8.out 3 (v := .string d0.text) rfl
          have u4 := cell_h HK8.out 4 (v := .string d0.purp) rfl
          have u5 := cell_h HK8.out 5 (v := .string d0.region) rfl
          have u6 := cell_h HK8.out 6 (v := .int .i64 d0.ch) rfl
          have u7 := cell_h HK8.out 7 (v := .int .i64 d0.what) rfl
          refine bodyPost_ret (v := .tuple #[vg, .agg #[.int .i64 d0.no, .int .i64 d0.at_, .int .i64 d0.kind, .string d0.text, .string d0.purp, .string d0.region, .int .i64 d0.ch, .int .i64 d0.what], .bool q]) (by simp [results, Tryz.results109, go_sem, u0, u1, u2, u3, u4, u5, u6, u7]) rfl ⟨vg, ?_, HO9.out, HB8.out⟩
          rw [HO.out, HSV.out, HQ.out]
end Go.Proofs.YtmlpfbffecdepaaGreatDoor

/- Consents: the answer without objections. -/
namespace Go.Proofs.YtmlpfbffecdepaaGreatDoor
set_option linter.unusedVariables false
open Go.RowKit
theorem bestF_snoc {l gs : List StD} {t : TermD} {at_ : Int} {i : Nat} (h : i < gs.length) : bestF l t at_ (gs.take (i + 1)) = bestStep l t at_ (bestF l t at_ (gs.take i)) gs[i] := by
  unfold bestF
  rw [List.take_succ_eq_append_getElem h, List.foldl_append]
  rfl
/-- What stands after i rounds. -/
def BI (W2 : World) (l gs : List StD) (t : TermD) (at_ : Int) (i : Nat) (why : Int) (wr : World) : Prop :=
  ∃ d : StD, bestF l t at_ (gs.take i) = ⟨why, d.at_, d.no⟩ ∧ Below W2.heap.size W2 wr ∧ wr.heap[W2.heap.size]? = some (.cells #[.int .i64 d.no, .int .i64 d.at_, .int .i64 d.kind, .string d.text, .string d.purp, .string d.region, .int .i64 d.ch, .int .i64 d.what] 38)
theorem BI.upd {W2 W : World} {l gs : List StD} {t : TermD} {at_ : Int} {i : Nat} {g d0 : StD} {why2 : Int} (h : bestF l t at_ (gs.take (i + 1)) = ⟨why2, g.at_, g.no⟩) (hb : Below W2.heap.size W2 W) (hk : W.heap[W2.heap.size]? = some (.cells #[.int .i64 d0.no, .int .i64 d0.at_, .int .i64 d0.kind, .string d0.text, .string d0.purp, .string d0.region, .int .i64 d0.ch, .int .i64 d0.what] 38)) :
    BI W2 l gs t at_ (i + 1) why2 ((((((((W.setCell ⟨W2.heap.size, 0, none⟩ (.int .i64 g.no)).setCell ⟨W2.heap.size, 1, none⟩ (.int .i64 g.at_)).setCell ⟨W2.heap.size, 2, none⟩ (.int .i64 g.kind)).setCell ⟨W2.heap.size, 3, none⟩ (.string g.text)).setCell ⟨W2.heap.size, 4, none⟩ (.string g.purp)).setCell ⟨W2.heap.size, 5, none⟩ (.string g.region)).setCell ⟨W2.heap.size, 6, none⟩ (.int .i64 g.ch)).setCell ⟨W2.heap.size, 7, none⟩ (.int .i64 g.what)) :=
  ⟨g, h, below_set8 hb (Nat.le_refl _) _ _ _ _ _ _ _ _, set8 hk _ _ _ _ _ _ _ _⟩
def Bd (l : List StD) : Prop := ∀ s ∈ l, -1000000000000 ≤ s.at_ ∧ s.at_ ≤ 1000000000000
theorem Rw.len {D : Type} {H : Frz} {k : Nat} {f : D → Nat → Value} {ds : List D} (h : Rw H none k f ds) : ds = [] := by
  cases ds with
  | nil => rfl
  | cons d ds => obtain ⟨b, off, e, _⟩ := h 0 (by simp); cases e
def ansO (a : AnsD) : Obj := .cells #[.bool a.may, .int .i64 a.why, .int .i64 a.no] 92
set_option maxHeartbeats 4000000 in
set_option maxRecDepth 100000 in
theorem allowed_any (H : Frz) (A : Option Addr) (cap : Nat) (l : List StD) (t : TermD) (purp : ByteArray) (at_ : Int) (w : World) (hH : H.In w) (hR : Rw H A 8 fSt l) (hl : l.length ≤ 1000000) (hbd : Bd l)
    (hd0 : 0 ≤ t.days) (hd1 : t.days ≤ 2000) (hw0 : 0 ≤ t.wait) (hw1 : t.wait ≤ 100000) :
    Calls Tryz.prog 71 #[.slice A l.length cap, .agg #[.string t.region, .int .i64 t.ch, .bool t.free, .int .i64 t.days, .int .i64 t.wait], .string purp, .int .i64 at_] w fun e w' => e = .returned (ansV (allowF l t purp at_)) ∧ Below w.heap.size w w' := by
  have HG := Lib.hid (fun W (hW : H.In W) => grants_any H A cap l purp W hW hR hl)
  have hs2 : ((w.alloc (.cells #[.string t.region, .int .i64 t.ch, .bool t.free, .int .i64 t.days, .int .i64 t.wait] 60)).alloc (ansO ⟨false, 0, 0⟩)).heap.size = w.heap.size + 2 := by simp
  have hkt : ((w.alloc (.cells #[.string t.region, .int .i64 t.ch, .bool t.free, .int .i64 t.days, .int .i64 t.wait] 60)).alloc (ansO ⟨false, 0, 0⟩)).heap[w.heap.size]? = some (.cells #[.string t.region, .int .i64 t.ch, .bool t.free, .int .i64 t.days, .int .i64 t.wait] 60) := (heap_lt (by simp)).trans (heap_alloc_new _ _)
  have hka : ((w.alloc (.cells #[.string t.region, .int .i64 t.ch, .bool t.free, .int .i64 t.days, .int .i64 t.wait] 60)).alloc (ansO ⟨false, 0, 0⟩)).heap[w.heap.size + 1]? = some (ansO ⟨false, 0, 0⟩) := heap_at (by simp)
  have hin := (hH.alloc (.cells #[.string t.region, .int .i64 t.ch, .bool t.free, .int .i64 t.days, .int .i64 t.wait] 60)).alloc (ansO ⟨false, 0, 0⟩)
  have hb := new2 (w := w) (.cells #[.string t.region, .int .i64 t.ch, .bool t.free, .int .i64 t.days, .int .i64 t.wait] 60) (ansO ⟨false, 0, 0⟩)
  have HKT := Lib.hid hkt
  have HKA := Lib.hid hka
  have HIN := Lib.hid hin
  have HB := Lib.hid hb
  have HS2 := Lib.hid hs2
  have HR := Lib.hid hR
  have HBD := Lib.hid hbd
  clear hs2 hkt hka hin hb hH hR hbd
  unfold ansO at HKT HKA HIN HB HS2
  go_enter Tryz.func71, Tryz.ntmps71
  go_wp2_with fail
  refine (HG.out _ HIN.out).mono ?_
  rintro e w1 ⟨v, rfl, hO, hb1⟩
  obtain ⟨A2, cap2, H2, hv, hle, q1, q2, hR2, -⟩ := hO.freeze H
  subst hv
  have hin1 := q1 (HIN.out.below hb1)
  have hH2 : H.Le H2 := q2 (fun g hg => HIN.out.none_ (hO.lt hg).1)
  have HKT1 := Lib.hid ((hb1.block _ (by rw [HS2.out]; omega)).trans HKT.out)
  have HKA1 := Lib.hid ((hb1.block _ (by rw [HS2.out]; omega)).trans HKA.out)
  have HB1 := Lib.hid (HB.out.trans (hb1.mono HB.out.size))
  have HSV : Hid (∃ d : StD, d = (wdF purp l).getD zeroSt ∧ stV (wdF purp l) = .agg #[.int .i64 d.no, .int .i64 d.at_, .int .i64 d.kind, .string d.text, .string d.purp, .string d.region, .int .i64 d.ch, .int .i64 d.what]) := ⟨_, rfl, stV_eq rfl⟩
  obtain ⟨d, hd, hst⟩ := HSV.out
  rw [hst]
  have hsz1 : w.heap.size + 1 < w1.heap.size := lt_of_heap HKA1.out
  have HD := Lib.hid hd
  have HIN1 := Lib.hid hin1
  have HR2 := Lib.hid hR2
  have HRL := Lib.hid (HR.out.le hH2)
  have hgl : (grF purp l).length ≤ 1000000 := by
    have := List.length_filter_le (grB purp (wdF purp l)) l
    unfold grF; omega
  have HBG : Hid (Bd (grF purp l)) := fun s hs => HBD.out s (List.mem_filter.1 hs).1
  have HAL : Hid (allowF l t purp at_ = if (wdF purp l).isSome = true ∧ (grF purp l).length = 0 then ⟨false, 5, d.no⟩ else if t.free = true then ⟨true, 1, 0⟩ else if (grF purp l).length = 0 then ⟨false, 4, 0⟩ else ⟨decide ((bestF l t at_ (grF purp l)).why = 2), (bestF l t at_ (grF purp l)).why, (bestF l t at_ (grF purp l)).no⟩) := by
    show _ = _
    rw [hd]; rfl
  clear HG hO hb1 q1 q2 hR2 hin1 hH2 HSV hst hd HIN HKT HKA HB HS2 HR
  generalize hws : (wdF purp l).isSome = ws at *
  generalize hgs : grF purp l = gs at *
  generalize hal : allowF l t purp at_ = al at *
  have HAL2 := Lib.hid hal
  clear hws hgs hal
  have HB2 := Lib.hid (HB1.out.alloc HB1.out.size (.cells #[.int .i64 d.no, .int .i64 d.at_, .int .i64 d.kind, .string d.text, .string d.purp, .string d.region, .int .i64 d.ch, .int .i64 d.what] 38))
  have hs2 : (w1.alloc (.cells #[.int .i64 d.no, .int .i64 d.at_, .int .i64 d.kind, .string d.text, .string d.purp, .string d.region, .int .i64 d.ch, .int .i64 d.what] 38)).heap.size = w1.heap.size + 1 := sizeA _ _
  have HKT2 := Lib.hid ((heap_lt (o := (.cells #[.int .i64 d.no, .int .i64 d.at_, .int .i64 d.kind, .string d.text, .string d.purp, .string d.region, .int .i64 d.ch, .int .i64 d.what] 38)) (show w.heap.size < w1.heap.size by omega)).trans HKT1.out)
  have HKA2 := Lib.hid ((heap_lt (o := (.cells #[.int .i64 d.no, .int .i64 d.at_, .int .i64 d.kind, .string d.text, .string d.purp, .string d.region, .int .i64 d.ch, .int .i64 d.what] 38)) (show w.heap.size + 1 < w1.heap.size by omega)).trans HKA1.out)
  have HKD2 := Lib.hid (heap_alloc_new w1 (.cells #[.int .i64 d.no, .int .i64 d.at_, .int .i64 d.kind, .string d.text, .string d.purp, .string d.region, .int .i64 d.ch, .int .i64 d.what] 38))
  have HIN2 := Lib.hid (HIN1.out.alloc (.cells #[.int .i64 d.no, .int .i64 d.at_, .int .i64 d.kind, .string d.text, .string d.purp, .string d.region, .int .i64 d.ch, .int .i64 d.what] 38))
  clear HKT1 HKA1 HB1 HIN1
  have HSZ2 := Lib.hid hs2
  clear hs2
  have hpd : ¬ w1.heap.size = w.heap.size + 1 := by omega
  have hpd' : ¬ w.heap.size + 1 = w1.heap.size := by omega
  have hpt : ¬ w1.heap.size = w.heap.size := by omega
  have hpt' : ¬ w.heap.size = w1.heap.size := by omega
  have a0 : (w1.alloc (.cells #[.int .i64 d.no, .int .i64 d.at_, .int .i64 d.kind, .string d.text, .string d.purp, .string d.region, .int .i64 d.ch, .int .i64 d.what] 38)).cell? ⟨w.heap.size + 1, 0, none⟩ = some (.bool false) := cell_h HKA2.out 0 rfl
  have a1 : (w1.alloc (.cells #[.int .i64 d.no, .int .i64 d.at_, .int .i64 d.kind, .string d.text, .string d.purp, .string d.region, .int .i64 d.ch, .int .i64 d.what] 38)).cell? ⟨w.heap.size + 1, 1, none⟩ = some (.int .i64 0) := cell_h HKA2.out 1 rfl
  have a2 : (w1.alloc (.cells #[.int .i64 d.no, .int .i64 d.at_, .int .i64 d.kind, .string d.text, .string d.purp, .string d.region, .int .i64 d.ch, .int .i64 d.what] 38)).cell? ⟨w.heap.size + 1, 2, none⟩ = some (.int .i64 0) := cell_h HKA2.out 2 rfl
  have b0 := froz_h HKA2.out 0
  have b1 := froz_h HKA2.out 1
  have b2 := froz_h HKA2.out 2
  have g0 : (w1.alloc (.cells #[.int .i64 d.no, .int .i64 d.at_, .int .i64 d.kind, .string d.text, .string d.purp, .string d.region, .int .i64 d.ch, .int .i64 d.what] 38)).cell? ⟨w1.heap.size, 0, none⟩ = some (.int .i64 d.no) := cell_h HKD2.out 0 rfl
  have e2 : (w1.alloc (.cells #[.int .i64 d.no, .int .i64 d.at_, .int .i64 d.kind, .string d.text, .string d.purp, .string d.region, .int .i64 d.ch, .int .i64 d.what] 38)).cell? ⟨w.heap.size, 2, none⟩ = some (.bool t.free) := cell_h HKT2.out 2 rfl
  have hzero : decide ((0 : Int) = gs.length) = decide (gs.length = 0) := by congr 1; apply propext; omega
  by_cases hW : ws = true ∧ gs.length = 0
  · have HV := Lib.hid (HAL.out.trans (if_pos hW))
    obtain ⟨rfl, hg0⟩ := hW
    have k1 : ((gs.length : Int) == 0) = true := by simp; exact List.length_eq_zero_iff.1 hg0
    clear hg0 hzero
    go_upto_region 2 with (fail)
    generalize w1.alloc (.cells #[.int .i64 d.no, .int .i64 d.at_, .int .i64 d.kind, .string d.text, .string d.purp, .string d.region, .int .i64 d.ch, .int .i64 d.what] 38) = W2 at *
    have HK9 := Lib.hid (set3 HKA2.out (.bool false) (.int .i64 5) (.int .i64 d.no))
    have HB9 := Lib.hid (below_set3 HB2.out (show w.heap.size ≤ w.heap.size + 1 by omega) (.bool false) (.int .i64 5) (.int .i64 d.no))
    go_wp2_with fail
    have u0 := cell_h HK9.out 0 (v := .bool false) rfl
    have u1 := cell_h HK9.out 1 (v := .int .i64 5) rfl
    have u2 := cell_h HK9.out 2 (v := .int .i64 d.no) rfl
    refine bodyPost_ret (v := .agg #[.bool false, .int .i64 5, .int .i64 d.no]) (by simp [results, Tryz.results71, go_sem, u0, u1, u2]) rfl ⟨?_, HB9.out⟩
    rw [HAL2.out, HV.out]; rfl
  · have hV1 := HAL.out.trans (if_neg hW)
    have hE : ws = false ∨ (ws = true ∧ ((gs.length : Int) == 0) = false) := by
      cases ws with
      | false => left; rfl
      | true => right; refine ⟨rfl, ?_⟩; simp; intro c; exact hW ⟨rfl, by rw [c]; rfl⟩
    by_cases hfree : t.free = true
    · have HV := Lib.hid (hV1.trans (if_pos hfree))
      rw [hfree] at e2
      clear hV1 hfree hW hzero HKT2
      rcases hE with rfl | ⟨rfl, k1⟩
      all_goals
        go_upto_region 2 with (fail)
        generalize w1.alloc (.cells #[.int .i64 d.no, .int .i64 d.at_, .int .i64 d.kind, .string d.text, .string d.purp, .string d.region, .int .i64 d.ch, .int .i64 d.what] 38) = W2 at *
        have HK9 := Lib.hid (set3 HKA2.out (.bool true) (.int .i64 1) (.int .i64 0))
        have HB9 := Lib.hid (below_set3 HB2.out (show w.heap.size ≤ w.heap.size + 1 by omega) (.bool true) (.int .i64 1) (.int .i64 0))
        go_wp2_with fail
        have u0 := cell_h HK9.out 0 (v := .bool true) rfl
        have u1 := cell_h HK9.out 1 (v := .int .i64 1) rfl
        have u2 := cell_h HK9.out 2 (v := .int .i64 0) rfl
        refine bodyPost_ret (v := .agg #[.bool true, .int .i64 1, .int .i64 0]) (by simp [results, Tryz.results71, go_sem, u0, u1, u2]) rfl ⟨?_, HB9.out⟩
        rw [HAL2.out, HV.out]; rfl
    · have hV2 := hV1.trans (if_neg hfree)
      have hf2 : t.free = false := by simpa using hfree
      have HKT3 := HKT2
      rw [hf2] at e2
      by_cases hg0 : gs.length = 0
      · have HV := Lib.hid (hV2.trans (if_pos hg0))
        have k1 : ((gs.length : Int) == 0) = true := by simp; exact List.length_eq_zero_iff.1 hg0
        have k2 : ws = false := by
          cases ws with
          | false => rfl
          | true => exact absurd ⟨rfl, hg0⟩ hW
        subst k2
        clear hV1 hV2 hg0 hW hE hzero HKT2 HKT3 hfree hf2
        go_upto_region 2 with (fail)
        generalize w1.alloc (.cells #[.int .i64 d.no, .int .i64 d.at_, .int .i64 d.kind, .string d.text, .string d.purp, .string d.region, .int .i64 d.ch, .int .i64 d.what] 38) = W2 at *
        have HK9 := Lib.hid (set3 HKA2.out (.bool false) (.int .i64 4) (.int .i64 0))
        have HB9 := Lib.hid (below_set3 HB2.out (show w.heap.size ≤ w.heap.size + 1 by omega) (.bool false) (.int .i64 4) (.int .i64 0))
        go_wp2_with fail
        have u0 := cell_h HK9.out 0 (v := .bool false) rfl
        have u1 := cell_h HK9.out 1 (v := .int .i64 4) rfl
        have u2 := cell_h HK9.out 2 (v := .int .i64 0) rfl
        refine bodyPost_ret (v := .agg #[.bool false, .int .i64 4, .int .i64 0]) (by simp [results, Tryz.results71, go_sem, u0, u1, u2]) rfl ⟨?_, HB9.out⟩
        rw [HAL2.out, HV.out]; rfl
      · have HV := Lib.hid (hV2.trans (if_neg hg0))
        have k1 : ((gs.length : Int) == 0) = false := by simp; intro c; exact hg0 (by rw [c]; rfl)
        have HF2 := Lib.hid hf2
        clear hV1 hV2 hg0 hW hzero hE hfree hf2
        have hws2 : ws = false ∨ ws = true := by cases ws <;> simp
        rcases hws2 with rfl | rfl
        all_goals
          go_upto_region 2 with (fail)
          generalize w1.alloc (.cells #[.int .i64 d.no, .int .i64 d.at_, .int .i64 d.kind, .string d.text, .string d.purp, .string d.region, .int .i64 d.ch, .int .i64 d.what] 38) = W2 at *
          have hsz2 : w.heap.size + 1 < W2.heap.size := lt_of_heap HKA2.out
          have HI0 : Hid (BI W2 l gs t at_ 0 0 (W2.alloc (.cells #[.int .i64 zeroSt.no, .int .i64 zeroSt.at_, .int .i64 zeroSt.kind, .string zeroSt.text, .string zeroSt.purp, .string zeroSt.region, .int .i64 zeroSt.ch, .int .i64 zeroSt.what] 38))) := ⟨zeroSt, rfl, new1 _, heap_alloc_new _ _⟩
          clear g0 a0 a1 a2 b0 b1 b2 hpd hpd' hpt hpt' HKT3 HKD2
          go_wp2_with fail
          clear e2
          go_loopw [13, 45] (fun s tt wr => ∃ (i : Nat) (why : Int), i ≤ gs.length ∧ tt = .int .i64 i ∧ s = .int .i64 why ∧ Hid (BI W2 l gs t at_ i why wr)) (fun _ tt _ => gs.length - (intOf tt).toNat)
          case atStart => exact ⟨0, 0, by omega, rfl, rfl, HI0⟩
          case round =>
            obtain ⟨i, why, hi, rfl, rfl, hI⟩ := hrel
            obtain ⟨bd, hbf, hb, hkb⟩ := hI.out
            clear HI0
            by_cases hlt : i < gs.length
            · have hinr := HIN2.out.below hb
              obtain ⟨b, off, rfl, hbl, hc⟩ := HR2.out.at_ hinr hlt (by omega)
              have c0 : wr.cell? ⟨b, off + i * 8, none⟩ = some (.int .i64 gs[i].no) := hc 0 (by omega)
              have c1 : wr.cell? ⟨b, off + i * 8 + 1, none⟩ = some (.int .i64 gs[i].at_) := hc 1 (by omega)
              have c2 : wr.cell? ⟨b, off + i * 8 + 2, none⟩ = some (.int .i64 gs[i].kind) := hc 2 (by omega)
              have c3 : wr.cell? ⟨b, off + i * 8 + 3, none⟩ = some (.string gs[i].text) := hc 3 (by omega)
              have c4 : wr.cell? ⟨b, off + i * 8 + 4, none⟩ = some (.string gs[i].purp) := hc 4 (by omega)
              have c5 : wr.cell? ⟨b, off + i * 8 + 5, none⟩ = some (.string gs[i].region) := hc 5 (by omega)
              have c6 : wr.cell? ⟨b, off + i * 8 + 6, none⟩ = some (.int .i64 gs[i].ch) := hc 6 (by omega)
              have c7 : wr.cell? ⟨b, off + i * 8 + 7, none⟩ = some (.int .i64 gs[i].what) := hc 7 (by omega)
              have HST0 : Hid (bestF l t at_ (gs.take (i + 1)) = bestStep l t at_ ⟨why, bd.at_, bd.no⟩ gs[i]) := (bestF_snoc hlt).trans (by rw [hbf])
              have hgb := HBG.out _ (List.getElem_mem hlt)
              clear hc hbf
              generalize gs[i] = g at *
              have z0 : (wr.alloc (.cells #[.int .i64 g.no, .int .i64 g.at_, .int .i64 g.kind, .string g.text, .string g.purp, .string g.region, .int .i64 g.ch, .int .i64 g.what] 38)).cell? ⟨wr.heap.size, 0, none⟩ = some (.int .i64 g.no) := newc 0 rfl
              have z1 : (wr.alloc (.cells #[.int .i64 g.no, .int .i64 g.at_, .int .i64 g.kind, .string g.text, .string g.purp, .string g.region, .int .i64 g.ch, .int .i64 g.what] 38)).cell? ⟨wr.heap.size, 1, none⟩ = some (.int .i64 g.at_) := newc 1 rfl
              have z2 : (wr.alloc (.cells #[.int .i64 g.no, .int .i64 g.at_, .int .i64 g.kind, .string g.text, .string g.purp, .string g.region, .int .i64 g.ch, .int .i64 g.what] 38)).cell? ⟨wr.heap.size, 2, none⟩ = some (.int .i64 g.kind) := newc 2 rfl
              have z3 : (wr.alloc (.cells #[.int .i64 g.no, .int .i64 g.at_, .int .i64 g.kind, .string g.text, .string g.purp, .string g.region, .int .i64 g.ch, .int .i64 g.what] 38)).cell? ⟨wr.heap.size, 3, none⟩ = some (.string g.text) := newc 3 rfl
              have z4 : (wr.alloc (.cells #[.int .i64 g.no, .int .i64 g.at_, .int .i64 g.kind, .string g.text, .string g.purp, .string g.region, .int .i64 g.ch, .int .i64 g.what] 38)).cell? ⟨wr.heap.size, 4, none⟩ = some (.string g.purp) := newc 4 rfl
              have z5 : (wr.alloc (.cells #[.int .i64 g.no, .int .i64 g.at_, .int .i64 g.kind, .string g.text, .string g.purp, .string g.region, .int .i64 g.ch, .int .i64 g.what] 38)).cell? ⟨wr.heap.size, 5, none⟩ = some (.string g.region) := newc 5 rfl
              have z6 : (wr.alloc (.cells #[.int .i64 g.no, .int .i64 g.at_, .int .i64 g.kind, .string g.text, .string g.purp, .string g.region, .int .i64 g.ch, .int .i64 g.what] 38)).cell? ⟨wr.heap.size, 6, none⟩ = some (.int .i64 g.ch) := newc 6 rfl
              have z7 : (wr.alloc (.cells #[.int .i64 g.no, .int .i64 g.at_, .int .i64 g.kind, .string g.text, .string g.purp, .string g.region, .int .i64 g.ch, .int .i64 g.what] 38)).cell? ⟨wr.heap.size, 7, none⟩ = some (.int .i64 g.what) := newc 7 rfl
              have HBN := Lib.hid (new1 (w := wr) (.cells #[.int .i64 g.no, .int .i64 g.at_, .int .i64 g.kind, .string g.text, .string g.purp, .string g.region, .int .i64 g.ch, .int .i64 g.what] 38))
              have hkt := (hb.block _ (lt_of_heap HKT2.out)).trans HKT2.out
              have hkt1 := (HBN.out.block _ (lt_of_heap hkt)).trans hkt
              have HKE1 := Lib.hid (heap_alloc_new wr (.cells #[.int .i64 g.no, .int .i64 g.at_, .int .i64 g.kind, .string g.text, .string g.purp, .string g.region, .int .i64 g.ch, .int .i64 g.what] 38))
              have hkb1 := Lib.hid ((HBN.out.block _ (lt_of_heap hkb)).trans hkb)
              have HINA := Lib.hid (hinr.below HBN.out)
              have hbA := Lib.hid (hb.trans (HBN.out.mono hb.size))
              have hwr : W2.heap.size < wr.heap.size := lt_of_heap hkb
              have he1 : ¬ wr.heap.size = w.heap.size := by omega
              have he2 : ¬ w.heap.size = wr.heap.size := by omega
              go_upto_region 13 with (fail)
              clear c0 c1 c2 c3 c4 c5 c6 c7
              generalize wr.alloc (.cells #[.int .i64 g.no, .int .i64 g.at_, .int .i64 g.kind, .string g.text, .string g.purp, .string g.region, .int .i64 g.ch, .int .i64 g.what] 38) = W4 at *
              have te0 : W4.cell? ⟨w.heap.size, 0, none⟩ = some (.string t.region) := cell_h hkt1 0 rfl
              have tf0 := froz_h hkt1 0
              have te1 : W4.cell? ⟨w.heap.size, 1, none⟩ = some (.int .i64 t.ch) := cell_h hkt1 1 rfl
              have tf1 := froz_h hkt1 1
              have te2 : W4.cell? ⟨w.heap.size, 2, none⟩ = some (.bool t.free) := cell_h hkt1 2 rfl
              have tf2 := froz_h hkt1 2
              have te3 : W4.cell? ⟨w.heap.size, 3, none⟩ = some (.int .i64 t.days) := cell_h hkt1 3 rfl
              have tf3 := froz_h hkt1 3
              have te4 : W4.cell? ⟨w.heap.size, 4, none⟩ = some (.int .i64 t.wait) := cell_h hkt1 4 rfl
              have tf4 := froz_h hkt1 4
              clear hkt hkt1 hinr hb hkb hI HBN
              go_wp2_with fail
              refine (stateOf_any H2 A cap l t g at_ _ HINA.out HRL.out hl hd0 hd1 hw0 hw1 hgb.1 hgb.2).mono ?_
              rintro e W5 ⟨rfl, hb5⟩
              have HKE := Lib.hid ((hb5.block _ (lt_of_heap HKE1.out)).trans HKE1.out)
              have HKB := Lib.hid ((hb5.block _ (lt_of_heap hkb1.out)).trans hkb1.out)
              have HBW := Lib.hid (hbA.out.trans (hb5.mono hbA.out.size))
              have HST : Hid (bestF l t at_ (gs.take (i + 1)) = if why = 0 ∨ rankF (stateF l t g at_) < rankF why ∨ (stateF l t g at_ = why ∧ bd.at_ < g.at_) then ⟨stateF l t g at_, g.at_, g.no⟩ else ⟨why, bd.at_, bd.no⟩) := HST0.out
              clear HKE1 hkb1 hbA HINA hb5 HST0 z0 z1 z2 z3 z4 z5 z6 z7 te0 te1 te2 te3 te4 tf0 tf1 tf2 tf3 tf4
              generalize stateF l t g at_ = st at HST
              by_cases hw0 : why = 0
              · have k0 : (why == 0) = true := by simpa using hw0
                have HSN := Lib.hid (HST.out.trans (if_pos (Or.inl hw0)))
                have HF := Lib.hid (BI.upd HSN.out HBW.out HKB.out)
                have hkb := HKB.out
                have hke := HKE.out
                have x0 : W5.cell? ⟨W2.heap.size, 0, none⟩ = some (.int .i64 bd.no) := cell_h hkb 0 rfl
                have y0 := froz_h hkb 0
                have x1 : W5.cell? ⟨W2.heap.size, 1, none⟩ = some (.int .i64 bd.at_) := cell_h hkb 1 rfl
                have y1 := froz_h hkb 1
                have x2 : W5.cell? ⟨W2.heap.size, 2, none⟩ = some (.int .i64 bd.kind) := cell_h hkb 2 rfl
                have y2 := froz_h hkb 2
                have x3 : W5.cell? ⟨W2.heap.size, 3, none⟩ = some (.string bd.text) := cell_h hkb 3 rfl
                have y3 := froz_h hkb 3
                have x4 : W5.cell? ⟨W2.heap.size, 4, none⟩ = some (.string bd.purp) := cell_h hkb 4 rfl
                have y4 := froz_h hkb 4
                have x5 : W5.cell? ⟨W2.heap.size, 5, none⟩ = some (.string bd.region) := cell_h hkb 5 rfl
                have y5 := froz_h hkb 5
                have x6 : W5.cell? ⟨W2.heap.size, 6, none⟩ = some (.int .i64 bd.ch) := cell_h hkb 6 rfl
                have y6 := froz_h hkb 6
                have x7 : W5.cell? ⟨W2.heap.size, 7, none⟩ = some (.int .i64 bd.what) := cell_h hkb 7 rfl
                have y7 := froz_h hkb 7
                have z0 : W5.cell? ⟨wr.heap.size, 0, none⟩ = some (.int .i64 g.no) := cell_h hke 0 rfl
                have zf0 := froz_h hke 0
                have z1 : W5.cell? ⟨wr.heap.size, 1, none⟩ = some (.int .i64 g.at_) := cell_h hke 1 rfl
                have zf1 := froz_h hke 1
                have z2 : W5.cell? ⟨wr.heap.size, 2, none⟩ = some (.int .i64 g.kind) := cell_h hke 2 rfl
                have zf2 := froz_h hke 2
                have z3 : W5.cell? ⟨wr.heap.size, 3, none⟩ = some (.string g.text) := cell_h hke 3 rfl
                have zf3 := froz_h hke 3
                have z4 : W5.cell? ⟨wr.heap.size, 4, none⟩ = some (.string g.purp) := cell_h hke 4 rfl
                have zf4 := froz_h hke 4
                have z5 : W5.cell? ⟨wr.heap.size, 5, none⟩ = some (.string g.region) := cell_h hke 5 rfl
                have zf5 := froz_h hke 5
                have z6 : W5.cell? ⟨wr.heap.size, 6, none⟩ = some (.int .i64 g.ch) := cell_h hke 6 rfl
                have zf6 := froz_h hke 6
                have z7 : W5.cell? ⟨wr.heap.size, 7, none⟩ = some (.int .i64 g.what) := cell_h hke 7 rfl
                have zf7 := froz_h hke 7
                clear HST hkb hke hw0
                go_wp2_with fail
                go_roundw
                case rel => exact ⟨i + 1, _, by omega, by go_num, rfl, HF⟩
                case measure => simp [intOf]; omega
              · have k0 : (why == 0) = false := by simpa using hw0
                go_wp2_with fail
                refine (rank_any st _).mono ?_
                rintro e W6 ⟨rfl, hb6⟩
                have HKE6 := Lib.hid ((hb6.block _ (lt_of_heap HKE.out)).trans HKE.out)
                have HKB6 := Lib.hid ((hb6.block _ (lt_of_heap HKB.out)).trans HKB.out)
                have HBW6 := Lib.hid (HBW.out.trans (hb6.mono HBW.out.size))
                clear HKE HKB HBW hb6
                go_wp2_with fail
                refine (rank_any why _).mono ?_
                rintro e W5 ⟨rfl, hb6⟩
                have HKE := Lib.hid ((hb6.block _ (lt_of_heap HKE6.out)).trans HKE6.out)
                have HKB := Lib.hid ((hb6.block _ (lt_of_heap HKB6.out)).trans HKB6.out)
                have HBW := Lib.hid (HBW6.out.trans (hb6.mono HBW6.out.size))
                clear HKE6 HKB6 HBW6 hb6
                by_cases hr : rankF st < rankF why
                · have k1 : decide (rankF st < rankF why) = true := by simpa using hr
                  have HSN := Lib.hid (HST.out.trans (if_pos (Or.inr (Or.inl hr))))
                  have HF := Lib.hid (BI.upd HSN.out HBW.out HKB.out)
                  have hkb := HKB.out
                  have hke := HKE.out
                  have x0 : W5.cell? ⟨W2.heap.size, 0, none⟩ = some (.int .i64 bd.no) := cell_h hkb 0 rfl
                  have y0 := froz_h hkb 0
                  have x1 : W5.cell? ⟨W2.heap.size, 1, none⟩ = some (.int .i64 bd.at_) := cell_h hkb 1 rfl
                  have y1 := froz_h hkb 1
                  have x2 : W5.cell? ⟨W2.heap.size, 2, none⟩ = some (.int .i64 bd.kind) := cell_h hkb 2 rfl
                  have y2 := froz_h hkb 2
                  have x3 : W5.cell? ⟨W2.heap.size, 3, none⟩ = some (.string bd.text) := cell_h hkb 3 rfl
                  have y3 := froz_h hkb 3
                  have x4 : W5.cell? ⟨W2.heap.size, 4, none⟩ = some (.string bd.purp) := cell_h hkb 4 rfl
                  have y4 := froz_h hkb 4
                  have x5 : W5.cell? ⟨W2.heap.size, 5, none⟩ = some (.string bd.region) := cell_h hkb 5 rfl
                  have y5 := froz_h hkb 5
                  have x6 : W5.cell? ⟨W2.heap.size, 6, none⟩ = some (.int .i64 bd.ch) := cell_h hkb 6 rfl
                  have y6 := froz_h hkb 6
                  have x7 : W5.cell? ⟨W2.heap.size, 7, none⟩ = some (.int .i64 bd.what) := cell_h hkb 7 rfl
                  have y7 := froz_h hkb 7
                  have z0 : W5.cell? ⟨wr.heap.size, 0, none⟩ = some (.int .i64 g.no) := cell_h hke 0 rfl
                  have zf0 := froz_h hke 0
                  have z1 : W5.cell? ⟨wr.heap.size, 1, none⟩ = some (.int .i64 g.at_) := cell_h hke 1 rfl
                  have zf1 := froz_h hke 1
                  have z2 : W5.cell? ⟨wr.heap.size, 2, none⟩ = some (.int .i64 g.kind) := cell_h hke 2 rfl
                  have zf2 := froz_h hke 2
                  have z3 : W5.cell? ⟨wr.heap.size, 3, none⟩ = some (.string g.text) := cell_h hke 3 rfl
                  have zf3 := froz_h hke 3
                  have z4 : W5.cell? ⟨wr.heap.size, 4, none⟩ = some (.string g.purp) := cell_h hke 4 rfl
                  have zf4 := froz_h hke 4
                  have z5 : W5.cell? ⟨wr.heap.size, 5, none⟩ = some (.string g.region) := cell_h hke 5 rfl
                  have zf5 := froz_h hke 5
                  have z6 : W5.cell? ⟨wr.heap.size, 6, none⟩ = some (.int .i64 g.ch) := cell_h hke 6 rfl
                  have zf6 := froz_h hke 6
                  have z7 : W5.cell? ⟨wr.heap.size, 7, none⟩ = some (.int .i64 g.what) := cell_h hke 7 rfl
                  have zf7 := froz_h hke 7
                  clear HST hkb hke hr hw0
                  generalize rankF st = r1 at *
                  generalize rankF why = r2 at *
                  go_wp2_with fail
                  go_roundw
                  case rel => exact ⟨i + 1, _, by omega, by go_num, rfl, HF⟩
                  case measure => simp [intOf]; omega
                · have k1 : decide (rankF st < rankF why) = false := by simpa using hr
                  by_cases hs : st = why
                  · have k2 : (st == why) = true := by simpa using hs
                    by_cases ha : bd.at_ < g.at_
                    · have k3 : decide (bd.at_ < g.at_) = true := by simpa using ha
                      have HSN := Lib.hid (HST.out.trans (if_pos (Or.inr (Or.inr ⟨hs, ha⟩))))
                      have HF := Lib.hid (BI.upd HSN.out HBW.out HKB.out)
                      have hkb := HKB.out
                      have hke := HKE.out
                      have x0 : W5.cell? ⟨W2.heap.size, 0, none⟩ = some (.int .i64 bd.no) := cell_h hkb 0 rfl
                      have y0 := froz_h hkb 0
                      have x1 : W5.cell? ⟨W2.heap.size, 1, none⟩ = some (.int .i64 bd.at_) := cell_h hkb 1 rfl
                      have y1 := froz_h hkb 1
                      have x2 : W5.cell? ⟨W2.heap.size, 2, none⟩ = some (.int .i64 bd.kind) := cell_h hkb 2 rfl
                      have y2 := froz_h hkb 2
                      have x3 : W5.cell? ⟨W2.heap.size, 3, none⟩ = some (.string bd.text) := cell_h hkb 3 rfl
                      have y3 := froz_h hkb 3
                      have x4 : W5.cell? ⟨W2.heap.size, 4, none⟩ = some (.string bd.purp) := cell_h hkb 4 rfl
                      have y4 := froz_h hkb 4
                      have x5 : W5.cell? ⟨W2.heap.size, 5, none⟩ = some (.string bd.region) := cell_h hkb 5 rfl
                      have y5 := froz_h hkb 5
                      have x6 : W5.cell? ⟨W2.heap.size, 6, none⟩ = some (.int .i64 bd.ch) := cell_h hkb 6 rfl
                      have y6 := froz_h hkb 6
                      have x7 : W5.cell? ⟨W2.heap.size, 7, none⟩ = some (.int .i64 bd.what) := cell_h hkb 7 rfl
                      have y7 := froz_h hkb 7
                      have z0 : W5.cell? ⟨wr.heap.size, 0, none⟩ = some (.int .i64 g.no) := cell_h hke 0 rfl
                      have zf0 := froz_h hke 0
                      have z1 : W5.cell? ⟨wr.heap.size, 1, none⟩ = some (.int .i64 g.at_) := cell_h hke 1 rfl
                      have zf1 := froz_h hke 1
                      have z2 : W5.cell? ⟨wr.heap.size, 2, none⟩ = some (.int .i64 g.kind) := cell_h hke 2 rfl
                      have zf2 := froz_h hke 2
                      have z3 : W5.cell? ⟨wr.heap.size, 3, none⟩ = some (.string g.text) := cell_h hke 3 rfl
                      have zf3 := froz_h hke 3
                      have z4 : W5.cell? ⟨wr.heap.size, 4, none⟩ = some (.string g.purp) := cell_h hke 4 rfl
                      have zf4 := froz_h hke 4
                      have z5 : W5.cell? ⟨wr.heap.size, 5, none⟩ = some (.string g.region) := cell_h hke 5 rfl
                      have zf5 := froz_h hke 5
                      have z6 : W5.cell? ⟨wr.heap.size, 6, none⟩ = some (.int .i64 g.ch) := cell_h hke 6 rfl
                      have zf6 := froz_h hke 6
                      have z7 : W5.cell? ⟨wr.heap.size, 7, none⟩ = some (.int .i64 g.what) := cell_h hke 7 rfl
                      have zf7 := froz_h hke 7
                      clear HST hkb hke hr hs ha hw0
                      generalize rankF st = r1 at *
                      generalize rankF why = r2 at *
                      go_wp2_with fail
                      go_roundw
                      case rel => exact ⟨i + 1, _, by omega, by go_num, rfl, HF⟩
                      case measure => simp [intOf]; omega
                    · have k3 : decide (bd.at_ < g.at_) = false := by simpa using ha
                      have HSN := Lib.hid (HST.out.trans (if_neg (by intro c; rcases c with c | c | c; exact hw0 c; exact hr c; exact ha c.2)))
                      have HF : Hid (BI W2 l gs t at_ (i + 1) why W5) := ⟨bd, HSN.out, HBW.out, HKB.out⟩
                      have hkb := HKB.out
                      have hke := HKE.out
                      have x0 : W5.cell? ⟨W2.heap.size, 0, none⟩ = some (.int .i64 bd.no) := cell_h hkb 0 rfl
                      have y0 := froz_h hkb 0
                      have x1 : W5.cell? ⟨W2.heap.size, 1, none⟩ = some (.int .i64 bd.at_) := cell_h hkb 1 rfl
                      have y1 := froz_h hkb 1
                      have x2 : W5.cell? ⟨W2.heap.size, 2, none⟩ = some (.int .i64 bd.kind) := cell_h hkb 2 rfl
                      have y2 := froz_h hkb 2
                      have x3 : W5.cell? ⟨W2.heap.size, 3, none⟩ = some (.string bd.text) := cell_h hkb 3 rfl
                      have y3 := froz_h hkb 3
                      have x4 : W5.cell? ⟨W2.heap.size, 4, none⟩ = some (.string bd.purp) := cell_h hkb 4 rfl
                      have y4 := froz_h hkb 4
                      have x5 : W5.cell? ⟨W2.heap.size, 5, none⟩ = some (.string bd.region) := cell_h hkb 5 rfl
                      have y5 := froz_h hkb 5
                      have x6 : W5.cell? ⟨W2.heap.size, 6, none⟩ = some (.int .i64 bd.ch) := cell_h hkb 6 rfl
                      have y6 := froz_h hkb 6
                      have x7 : W5.cell? ⟨W2.heap.size, 7, none⟩ = some (.int .i64 bd.what) := cell_h hkb 7 rfl
                      have y7 := froz_h hkb 7
                      have z0 : W5.cell? ⟨wr.heap.size, 0, none⟩ = some (.int .i64 g.no) := cell_h hke 0 rfl
                      have zf0 := froz_h hke 0
                      have z1 : W5.cell? ⟨wr.heap.size, 1, none⟩ = some (.int .i64 g.at_) := cell_h hke 1 rfl
                      have zf1 := froz_h hke 1
                      have z2 : W5.cell? ⟨wr.heap.size, 2, none⟩ = some (.int .i64 g.kind) := cell_h hke 2 rfl
                      have zf2 := froz_h hke 2
                      have z3 : W5.cell? ⟨wr.heap.size, 3, none⟩ = some (.string g.text) := cell_h hke 3 rfl
                      have zf3 := froz_h hke 3
                      have z4 : W5.cell? ⟨wr.heap.size, 4, none⟩ = some (.string g.purp) := cell_h hke 4 rfl
                      have zf4 := froz_h hke 4
                      have z5 : W5.cell? ⟨wr.heap.size, 5, none⟩ = some (.string g.region) := cell_h hke 5 rfl
                      have zf5 := froz_h hke 5
                      have z6 : W5.cell? ⟨wr.heap.size, 6, none⟩ = some (.int .i64 g.ch) := cell_h hke 6 rfl
                      have zf6 := froz_h hke 6
                      have z7 : W5.cell? ⟨wr.heap.size, 7, none⟩ = some (.int .i64 g.what) := cell_h hke 7 rfl
                      have zf7 := froz_h hke 7
                      clear HST hkb hke hr hs ha hw0
                      generalize rankF st = r1 at *
                      generalize rankF why = r2 at *
                      go_wp2_with fail
                      go_roundw
                      case rel => exact ⟨i + 1, _, by omega, by go_num, rfl, HF⟩
                      case measure => simp [intOf]; omega
                  · have k2 : (st == why) = false := by simpa using hs
                    have HSN := Lib.hid (HST.out.trans (if_neg (by intro c; rcases c with c | c | c; exact hw0 c; exact hr c; exact hs c.1)))
                    have HF : Hid (BI W2 l gs t at_ (i + 1) why W5) := ⟨bd, HSN.out, HBW.out, HKB.out⟩
                    have hkb := HKB.out
                    have hke := HKE.out
                    have x0 : W5.cell? ⟨W2.heap.size, 0, none⟩ = some (.int .i64 bd.no) := cell_h hkb 0 rfl
                    have y0 := froz_h hkb 0
                    have x1 : W5.cell? ⟨W2.heap.size, 1, none⟩ = some (.int .i64 bd.at_) := cell_h hkb 1 rfl
                    have y1 := froz_h hkb 1
                    have x2 : W5.cell? ⟨W2.heap.size, 2, none⟩ = some (.int .i64 bd.kind) := cell_h hkb 2 rfl
                    have y2 := froz_h hkb 2
                    have x3 : W5.cell? ⟨W2.heap.size, 3, none⟩ = some (.string bd.text) := cell_h hkb 3 rfl
                    have y3 := froz_h hkb 3
                    have x4 : W5.cell? ⟨W2.heap.size, 4, none⟩ = some (.string bd.purp) := cell_h hkb 4 rfl
                    have y4 := froz_h hkb 4
                    have x5 : W5.cell? ⟨W2.heap.size, 5, none⟩ = some (.string bd.region) := cell_h hkb 5 rfl
                    have y5 := froz_h hkb 5
                    have x6 : W5.cell? ⟨W2.heap.size, 6, none⟩ = some (.int .i64 bd.ch) := cell_h hkb 6 rfl
                    have y6 := froz_h hkb 6
                    have x7 : W5.cell? ⟨W2.heap.size, 7, none⟩ = some (.int .i64 bd.what) := cell_h hkb 7 rfl
                    have y7 := froz_h hkb 7
                    have z0 : W5.cell? ⟨wr.heap.size, 0, none⟩ = some (.int .i64 g.no) := cell_h hke 0 rfl
                    have zf0 := froz_h hke 0
                    have z1 : W5.cell? ⟨wr.heap.size, 1, none⟩ = some (.int .i64 g.at_) := cell_h hke 1 rfl
                    have zf1 := froz_h hke 1
                    have z2 : W5.cell? ⟨wr.heap.size, 2, none⟩ = some (.int .i64 g.kind) := cell_h hke 2 rfl
                    have zf2 := froz_h hke 2
                    have z3 : W5.cell? ⟨wr.heap.size, 3, none⟩ = some (.string g.text) := cell_h hke 3 rfl
                    have zf3 := froz_h hke 3
                    have z4 : W5.cell? ⟨wr.heap.size, 4, none⟩ = some (.string g.purp) := cell_h hke 4 rfl
                    have zf4 := froz_h hke 4
                    have z5 : W5.cell? ⟨wr.heap.size, 5, none⟩ = some (.string g.region) := cell_h hke 5 rfl
                    have zf5 := froz_h hke 5
                    have z6 : W5.cell? ⟨wr.heap.size, 6, none⟩ = some (.int .i64 g.ch) := cell_h hke 6 rfl
                    have zf6 := froz_h hke 6
                    have z7 : W5.cell? ⟨wr.heap.size, 7, none⟩ = some (.int .i64 g.what) := cell_h hke 7 rfl
                    have zf7 := froz_h hke 7
                    clear HST hkb hke hr hs hw0
                    generalize rankF st = r1 at *
                    generalize rankF why = r2 at *
                    go_wp2_with fail
                    go_roundw
                    case rel => exact ⟨i + 1, _, by omega, by go_num, rfl, HF⟩
                    case measure => simp [intOf]; omega
            · have hie : i = gs.length := by omega
              subst hie
              have hbf2 : bestF l t at_ gs = ⟨why, bd.at_, bd.no⟩ := by rw [List.take_length] at hbf; exact hbf
              have hka := (hb.block _ (lt_of_heap HKA2.out)).trans HKA2.out
              have a0 : wr.cell? ⟨w.heap.size + 1, 0, none⟩ = some (.bool false) := cell_h hka 0 rfl
              have a1 : wr.cell? ⟨w.heap.size + 1, 1, none⟩ = some (.int .i64 0) := cell_h hka 1 rfl
              have a2 : wr.cell? ⟨w.heap.size + 1, 2, none⟩ = some (.int .i64 0) := cell_h hka 2 rfl
              have b0 := froz_h hka 0
              have b1 := froz_h hka 1
              have b2 := froz_h hka 2
              have g0 : wr.cell? ⟨W2.heap.size, 0, none⟩ = some (.int .i64 bd.no) := cell_h hkb 0 rfl
              have hbw := HB2.out.trans (hb.mono HB2.out.size)
              have HK9 := Lib.hid (set3 hka (.bool (why == 2)) (.int .i64 why) (.int .i64 bd.no))
              have HB9 := Lib.hid (below_set3 hbw (show w.heap.size ≤ w.heap.size + 1 by omega) (.bool (why == 2)) (.int .i64 why) (.int .i64 bd.no))
              have HV9 : Hid (al = ⟨why == 2, why, bd.no⟩) := by
                show _ = _
                rw [HV.out, hbf2]
                simp only [AnsD.mk.injEq, and_true]
                rw [Bool.eq_iff_iff]; simp
              have hn1 : ¬ W2.heap.size = w.heap.size + 1 := by omega
              have hn2 : ¬ w.heap.size + 1 = W2.heap.size := by omega
              clear hka hkb hbf hbf2 hbw hb hI
              go_wp2_with fail
              have u0 := cell_h HK9.out 0 (v := .bool (why == 2)) rfl
              have u1 := cell_h HK9.out 1 (v := .int .i64 why) rfl
              have u2 := cell_h HK9.out 2 (v := .int .i64 bd.no) rfl
              refine bodyPost_ret (v := .agg #[.bool (why == 2), .int .i64 why, .int .i64 bd.no]) (by simp [results, Tryz.results71, go_sem, u0, u1, u2]) rfl ⟨?_, HB9.out⟩
              rw [HAL2.out, HV9.out]; rfl
end Go.Proofs.YtmlpfbffecdepaaGreatDoor

/- Consents: the answer at a moment. -/
namespace Go.Proofs.YtmlpfbffecdepaaGreatDoor
set_option linter.unusedVariables false
open Go.RowKit
def TB (t : TermD) : Prop := (0 ≤ t.days ∧ t.days ≤ 2000) ∧ 0 ≤ t.wait ∧ t.wait ≤ 100000
def askO (t : TermD) (has : Bool) (purp : ByteArray) (v : Value) : Obj := .cells #[.string t.region, .int .i64 t.ch, .bool t.free, .int .i64 t.days, .int .i64 t.wait, .bool has, .string purp, v] 89
theorem Bd.upTo {l : List StD} (h : Bd l) (at_ : Int) : Bd (upTo l at_) := fun s hs => h s (List.takeWhile_sublist _ |>.mem hs)
theorem Rw.upTo {H : Frz} {A : Option Addr} {l : List StD} (h : Rw H A 8 fSt l) (at_ : Int) : Rw H A 8 fSt (Go.Proofs.YtmlpfbffecdepaaGreatDoor.upTo l at_) := by
  rw [upTo_pre]; exact h.take _
set_option maxHeartbeats 2000000 in
set_option maxRecDepth 100000 in
theorem answer_none (t : TermD) (purp : ByteArray) (A : Option Addr) (n cap : Nat) (at_ : Int) (w : World) :
    Calls Tryz.prog 38 #[.agg #[.string t.region, .int .i64 t.ch, .bool t.free, .int .i64 t.days, .int .i64 t.wait, .bool false, .string purp, .slice A n cap], .int .i64 at_] w fun e w' => e = .returned (.agg #[.bool false, .int .i64 3, .int .i64 0]) ∧ Below w.heap.size w w' := by
  have HB9 := Lib.hid (new2 (w := w) (.cells #[.string t.region, .int .i64 t.ch, .bool t.free, .int .i64 t.days, .int .i64 t.wait, .bool false, .string purp, .slice A n cap] 89) (.cells #[.bool false, .int .i64 3, .int .i64 0] 92))
  go_enter Tryz.func38, Tryz.ntmps38
  go_wp2_with fail
  refine bodyPost_ret (v := .agg #[.bool false, .int .i64 3, .int .i64 0]) (by simp [results, Tryz.results38, go_sem]) rfl ⟨rfl, HB9.out⟩
set_option maxHeartbeats 4000000 in
set_option maxRecDepth 100000 in
theorem answer_some (H : Frz) (A : Option Addr) (cap : Nat) (l : List StD) (t : TermD) (purp : ByteArray) (at_ : Int) (w : World) (hH : H.In w) (hR : Rw H A 8 fSt l) (hs : l.Pairwise fun a b => a.at_ ≤ b.at_) (hl : l.length ≤ 1000000) (hcap : l.length ≤ cap) (hbd : Bd l) (htb : TB t)
    (h0 : -1000000000000 ≤ at_) (h1 : at_ ≤ 1000000000000) :
    Calls Tryz.prog 38 #[.agg #[.string t.region, .int .i64 t.ch, .bool t.free, .int .i64 t.days, .int .i64 t.wait, .bool true, .string purp, .slice A l.length cap], .int .i64 at_] w fun e w' => e = .returned (ansV (answerF (some t) purp l at_)) ∧ Below w.heap.size w w' := by
  have hsz : ((w.alloc (.cells #[.string t.region, .int .i64 t.ch, .bool t.free, .int .i64 t.days, .int .i64 t.wait, .bool true, .string purp, .slice A l.length cap] 89)).alloc (.cells #[.bool false, .int .i64 0, .int .i64 0] 92)).heap.size = w.heap.size + 2 := by simp
  have hkq : ((w.alloc (.cells #[.string t.region, .int .i64 t.ch, .bool t.free, .int .i64 t.days, .int .i64 t.wait, .bool true, .string purp, .slice A l.length cap] 89)).alloc (.cells #[.bool false, .int .i64 0, .int .i64 0] 92)).heap[w.heap.size]? = some (.cells #[.string t.region, .int .i64 t.ch, .bool t.free, .int .i64 t.days, .int .i64 t.wait, .bool true, .string purp, .slice A l.length cap] 89) := (heap_lt (by simp)).trans (heap_alloc_new _ _)
  have hka : ((w.alloc (.cells #[.string t.region, .int .i64 t.ch, .bool t.free, .int .i64 t.days, .int .i64 t.wait, .bool true, .string purp, .slice A l.length cap] 89)).alloc (.cells #[.bool false, .int .i64 0, .int .i64 0] 92)).heap[w.heap.size + 1]? = some (.cells #[.bool false, .int .i64 0, .int .i64 0] 92) := heap_at (by simp)
  have HB := Lib.hid (new2 (w := w) (.cells #[.string t.region, .int .i64 t.ch, .bool t.free, .int .i64 t.days, .int .i64 t.wait, .bool true, .string purp, .slice A l.length cap] 89) (.cells #[.bool false, .int .i64 0, .int .i64 0] 92))
  have HKQ := Lib.hid hkq
  have HKA := Lib.hid hka
  have HSZ := Lib.hid hsz
  have HIN := Lib.hid ((hH.alloc (.cells #[.string t.region, .int .i64 t.ch, .bool t.free, .int .i64 t.days, .int .i64 t.wait, .bool true, .string purp, .slice A l.length cap] 89)).alloc (.cells #[.bool false, .int .i64 0, .int .i64 0] 92))
  have HUP := Lib.hid (fun W hW => upTo_any H A cap l at_ W hW hR hs hl hcap h0 h1)
  have hul : (upTo l at_).length ≤ 1000000 := by have := (upTo_cut hs at_).1; omega
  have HOB := Lib.hid (fun W hW => objected_any H A cap (upTo l at_) W hW (hR.upTo at_) hul)
  have HAL := Lib.hid (fun W hW => allowed_any H A cap (upTo l at_) t purp at_ W hW (hR.upTo at_) hul (hbd.upTo at_) htb.1.1 htb.1.2 htb.2.1 htb.2.2)
  have HV : Hid (answerF (some t) purp l at_ = if (objF (upTo l at_)).is = true then ⟨false, 6, (objF (upTo l at_)).no⟩ else allowF (upTo l at_) t purp at_) := rfl
  clear hsz hkq hka hH hR hs hl hcap hbd htb h0 h1 hul
  generalize hans : answerF (some t) purp l at_ = ans at HV
  have HANS := Lib.hid hans
  clear hans
  generalize upTo l at_ = pre at *
  go_enter Tryz.func38, Tryz.ntmps38
  go_wp2_with fail
  refine (HUP.out _ HIN.out).mono ?_
  rintro e w1 ⟨rfl, hb⟩
  have HKQ1 := Lib.hid ((hb.block _ (lt_of_heap HKQ.out)).trans HKQ.out)
  have HKA1 := Lib.hid ((hb.block _ (lt_of_heap HKA.out)).trans HKA.out)
  have HB1 := Lib.hid (HB.out.trans (hb.mono HB.out.size))
  have HIN1 := Lib.hid (HIN.out.below hb)
  clear hb HKQ HKA HB HIN HUP HSZ
  go_wp2_with fail
  refine (HOB.out _ HIN1.out).mono ?_
  rintro e w2 ⟨rfl, hb⟩
  have hkq := (hb.block _ (lt_of_heap HKQ1.out)).trans HKQ1.out
  have hka := (hb.block _ (lt_of_heap HKA1.out)).trans HKA1.out
  have HB2 := Lib.hid (HB1.out.trans (hb.mono HB1.out.size))
  have HIN2 := Lib.hid (HIN1.out.below hb)
  have a0 : w2.cell? ⟨w.heap.size + 1, 0, none⟩ = some (.bool false) := cell_h hka 0 rfl
  have a1 : w2.cell? ⟨w.heap.size + 1, 1, none⟩ = some (.int .i64 0) := cell_h hka 1 rfl
  have a2 : w2.cell? ⟨w.heap.size + 1, 2, none⟩ = some (.int .i64 0) := cell_h hka 2 rfl
  have b0 := froz_h hka 0
  have b1 := froz_h hka 1
  have b2 := froz_h hka 2
  have HKQ2 := Lib.hid hkq
  have HKA2 := Lib.hid hka
  clear hb HKQ1 HKA1 HB1 HIN1 HOB
  generalize hob : objF pre = ob at HV ⊢
  obtain ⟨ono, olast, ois⟩ := ob
  clear hob
  cases ois with
  | true =>
    have HV2 : Hid (ans = ⟨false, 6, ono⟩) := HV.out
    have HK9 := Lib.hid (set3 hka (.bool false) (.int .i64 6) (.int .i64 ono))
    have HB9 := Lib.hid (below_set3 HB2.out (show w.heap.size ≤ w.heap.size + 1 by omega) (.bool false) (.int .i64 6) (.int .i64 ono))
    clear hkq hka
    go_wp2_with fail
    have u0 := cell_h HK9.out 0 (v := .bool false) rfl
    have u1 := cell_h HK9.out 1 (v := .int .i64 6) rfl
    have u2 := cell_h HK9.out 2 (v := .int .i64 ono) rfl
    refine bodyPost_ret (v := .agg #[.bool false, .int .i64 6, .int .i64 ono]) (by simp [results, Tryz.results38, go_sem, u0, u1, u2]) rfl ⟨?_, HB9.out⟩
    rw [HV2.out]; rfl
  | false =>
    have HV2 : Hid (ans = allowF pre t purp at_) := HV.out
    have q0 : w2.cell? ⟨w.heap.size, 0, none⟩ = some (.string t.region) := cell_h hkq 0 rfl
    have q1 : w2.cell? ⟨w.heap.size, 1, none⟩ = some (.int .i64 t.ch) := cell_h hkq 1 rfl
    have q2 : w2.cell? ⟨w.heap.size, 2, none⟩ = some (.bool t.free) := cell_h hkq 2 rfl
    have q3 : w2.cell? ⟨w.heap.size, 3, none⟩ = some (.int .i64 t.days) := cell_h hkq 3 rfl
    have q4 : w2.cell? ⟨w.heap.size, 4, none⟩ = some (.int .i64 t.wait) := cell_h hkq 4 rfl
    have q6 : w2.cell? ⟨w.heap.size, 6, none⟩ = some (.string purp) := cell_h hkq 6 rfl
    clear hkq hka a0 a1 a2 b0 b1 b2
    go_wp2_with fail
    refine (HAL.out _ HIN2.out).mono ?_
    rintro e w3 ⟨rfl, hb⟩
    have hka := (hb.block _ (lt_of_heap HKA2.out)).trans HKA2.out
    have HB3 := Lib.hid (HB2.out.trans (hb.mono HB2.out.size))
    have a0 : w3.cell? ⟨w.heap.size + 1, 0, none⟩ = some (.bool false) := cell_h hka 0 rfl
    have a1 : w3.cell? ⟨w.heap.size + 1, 1, none⟩ = some (.int .i64 0) := cell_h hka 1 rfl
    have a2 : w3.cell? ⟨w.heap.size + 1, 2, none⟩ = some (.int .i64 0) := cell_h hka 2 rfl
    have b0 := froz_h hka 0
    have b1 := froz_h hka 1
    have b2 := froz_h hka 2
    rw [← HV2.out]
    obtain ⟨am, ay, an⟩ := ans
    rw [show ansV ⟨am, ay, an⟩ = .agg #[.bool am, .int .i64 ay, .int .i64 an] from rfl]
    have HK9 := Lib.hid (set3 hka (.bool am) (.int .i64 ay) (.int .i64 an))
    have HB9 := Lib.hid (below_set3 HB3.out (show w.heap.size ≤ w.heap.size + 1 by omega) (.bool am) (.int .i64 ay) (.int .i64 an))
    clear hka hb q0 q1 q2 q3 q4 q6
    go_wp2_with fail
    have u0 := cell_h HK9.out 0 (v := .bool am) rfl
    have u1 := cell_h HK9.out 1 (v := .int .i64 ay) rfl
    have u2 := cell_h HK9.out 2 (v := .int .i64 an) rfl
    refine bodyPost_ret (v := .agg #[.bool am, .int .i64 ay, .int .i64 an]) (by simp [results, Tryz.results38, go_sem, u0, u1, u2]) rfl ⟨?_, HB9.out⟩
    rfl
theorem answer_any (H : Frz) (A : Option Addr) (cap : Nat) (l : List StD) (o : Option TermD) (purp : ByteArray) (at_ : Int) (w : World) (hH : H.In w) (hR : Rw H A 8 fSt l) (hs : l.Pairwise fun a b => a.at_ ≤ b.at_) (hl : l.length ≤ 1000000) (hcap : l.length ≤ cap) (hbd : Bd l) (htb : ∀ t, o = some t → TB t)
    (h0 : -1000000000000 ≤ at_) (h1 : at_ ≤ 1000000000000) :
    Calls Tryz.prog 38 #[.agg #[.string (o.getD zeroTe).region, .int .i64 (o.getD zeroTe).ch, .bool (o.getD zeroTe).free, .int .i64 (o.getD zeroTe).days, .int .i64 (o.getD zeroTe).wait, .bool o.isSome, .string purp, .slice A l.length cap], .int .i64 at_] w fun e w' => e = .returned (ansV (answerF o purp l at_)) ∧ Below w.heap.size w w' := by
  cases o with
  | none => exact answer_none zeroTe purp A l.length cap at_ w
  | some t => exact answer_some H A cap l t purp at_ w hH hR hs hl hcap hbd (htb t rfl) h0 h1
end Go.Proofs.YtmlpfbffecdepaaGreatDoor

/- Draws leave a row that has grown. -/
namespace Go.Proofs.YtmlpfbffecdepaaGreatDoor
open Go.RowKit
theorem grown_below {a b c : World} {g : Nat} (h : a.grownBy b (some g)) (hb : Below b.heap.size b c) : a.grownBy c (some g) :=
  ⟨hb.os.trans h.os, hb.tape.trans h.tape, hb.output.trans h.output, Nat.le_trans h.size hb.size, fun k hk hne => (hb.block k (Nat.lt_of_lt_of_le hk h.size)).trans (h.block k hk hne)⟩
theorem grown_drew {a b : World} {row : Option Nat} (h : a.grownBy b row) : a.grownBy b.drew row := ⟨h.os, h.tape, h.output, h.size, h.block⟩
theorem grown_drewN' {a b : World} {row : Option Nat} (h : a.grownBy b row) (n : Nat) : a.grownBy (b.drewN n) row := ⟨h.os, h.tape, h.output, h.size, h.block⟩
end Go.Proofs.YtmlpfbffecdepaaGreatDoor

/- Sorting elements of 8 cells. -/
namespace Go.Proofs.YtmlpfbffecdepaaGreatDoor
set_option linter.unusedVariables false
open Go.RowKit

section
variable {D : Type}
/-- What a comparison does. -/
def CmpK_Sta (H : Frz) (f : D → Nat → Value) (kf : Nat) (caps : List Value) (c : D → D → Int) (ds : List D) : Prop :=
  ∀ (W : World) (a b : D), H.In W → a ∈ ds → b ∈ ds → Calls Tryz.prog kf ((.agg #[f a 0, f a 1, f a 2, f a 3, f a 4, f a 5, f a 6, f a 7] : Value) :: (.agg #[f b 0, f b 1, f b 2, f b 3, f b 4, f b 5, f b 6, f b 7] : Value) :: caps).toArray W fun e W' => e = .returned (.int .i64 (c a b)) ∧ Below W.heap.size W W'
/-- The sort's state. -/
def SW_Sta (H : Frz) (g T k : Nat) (f : D → Nat → Value) (rest : List Value) (w : World) (ys : List D) (wr : World) : Prop := KBlk wr g T k f ys rest ∧ w.grownBy wr (some g) ∧ H.In wr
theorem SW_mk_Sta {H : Frz} {g T k : Nat} {f : D → Nat → Value} {rest : List Value} {w : World} {ys : List D} {W : World} (h1 : KBlk W g T k f ys rest) (h2 : w.grownBy W (some g)) (h3 : H.In W) : Hid (SW_Sta H g T k f rest w ys W.drew) := ⟨h1, grown_drew h2, h3⟩

set_option maxHeartbeats 4000000 in
set_option maxRecDepth 100000 in
theorem insort_Sta (H : Frz) (f : D → Nat → Value) (kf : Nat) (caps : List Value) (c : D → D → Int) (ds : List D) (hf1 : ∀ d ∈ ds, ∀ m, (f d m).oneCell' = true) (hcmp : CmpK_Sta H f kf caps c ds) (hcall : ∀ (a b : Value) (W : World), (callFunc kf (a :: b :: caps).toArray).run Tryz.prog W = .ok (.enter kf (a :: b :: caps).toArray) W) (g n cap : Nat) (rest : List Value) (w : World)
    (hn : ds.length = n) (hcap : n ≤ cap) (hn12 : n ≤ 1000) (hH : H.In w) (hg : H g = none) (hB : KBlk w g 38 8 f ds rest) :
    Calls Tryz.prog 94 #[.slice (some ⟨g, 0, none⟩) n cap, .int .i64 0, .int .i64 n, .func (.func kf) #[] caps.toArray] w fun e w' =>
      e = .returned (.tuple #[]) ∧ SW_Sta H g 38 8 f rest w (isort (fun a b => decide (c a b < 0)) ds) w' := by
  have HC := Lib.hid hcmp
  have HN := Lib.hid hn
  have J0 : Hid (SW_Sta H g 38 8 f rest w ds w) := ⟨hB, World.grownBy.refl _ _, hH⟩
  have HF1 := Lib.hid hf1
  clear hcmp hH hB hn hf1
  go_enter Tryz.func94, Tryz.ntmps94
  go_wp2_with fail
  go_loopw [8] (fun t wr => ∃ (i : Nat) (ys : List D), 1 ≤ i ∧ (i ≤ n ∨ n = 0 ∧ i = 1) ∧ t = .int .i64 i ∧ Hid (ys = isort (fun a b => decide (c a b < 0)) (ds.take i) ++ ds.drop i) ∧ Hid (SW_Sta H g 38 8 f rest w ys wr)) (fun t _ => n + 1 - (intOf t).toNat)
  case atStart =>
    refine ⟨1, ds, by omega, by omega, rfl, ?_, J0⟩
    show ds = _
    cases ds with
    | nil => rfl
    | cons d ds => simp [isort, insLast]
  case round =>
    obtain ⟨i, ys, hi1, hi2, rfl, hys, J⟩ := hrel
    by_cases hlt : i < n
    · have hil : i < ds.length := by rw [HN.out]; exact hlt
      have hdr := List.drop_eq_getElem_cons hil
      have hx : Hid (∀ d, d ∈ isort (fun a b => decide (c a b < 0)) (ds.take i) → d ∈ ds) := fun d hd => List.mem_of_mem_take ((isort_perm _ _).mem_iff.1 hd)
      have hxm := Lib.hid (List.getElem_mem hil)
      have hR : Hid (∀ d, d ∈ ds.drop (i + 1) → d ∈ ds) := fun d hd => List.mem_of_mem_drop hd
      have hacl : (isort (fun a b => decide (c a b < 0)) (ds.take i)).length = i := by rw [isort_length, List.length_take]; omega
      have hRl : (ds.drop (i + 1)).length = n - (i + 1) := by rw [List.length_drop, HN.out]
      have hstep : Hid (isort (fun a b => decide (c a b < 0)) (ds.take (i + 1)) = insLast (fun a b => decide (c a b < 0)) ds[i] (isort (fun a b => decide (c a b < 0)) (ds.take i))) := by
        show _ = _
        rw [List.take_succ_eq_append_getElem hil, isort_snoc]
      have hys2 := hys.out
      rw [hdr] at hys2
      generalize isort (fun a b => decide (c a b < 0)) (ds.take i) = acc at hx hacl hstep hys2
      generalize hR' : ds.drop (i + 1) = R at hR hRl hys2
      have HRR := Lib.hid hR'
      generalize ds[i] = x at hxm hstep hys2
      have S0 : Hid (SIn (fun a b => decide (c a b < 0)) acc x R i ys) := by
        have := SIn.start (lt := fun a b => decide (c a b < 0)) acc R x
        rw [hacl, ← hys2] at this
        exact this
      have HACL := Lib.hid hacl
      have HRL := Lib.hid hRl
      clear hdr hys hys2 hR' hacl hRl J0
      obtain ⟨wo, rfl⟩ : ∃ wo : World, wo = wr := ⟨_, rfl⟩
      go_wp2_with fail
      go_loopw [9] (fun t wi => ∃ (j : Nat) (zs : List D), j ≤ i ∧ t = .int .i64 j ∧ Hid (SIn (fun a b => decide (c a b < 0)) acc x R j zs) ∧ Hid (SW_Sta H g 38 8 f rest w zs wi)) (fun t _ => (intOf t).toNat)
      case atStart => exact ⟨i, ys, by omega, rfl, S0, J⟩
      case round =>
        obtain ⟨j, zs, hj, rfl, SI, Ji⟩ := hrel
        clear S0 J
        have hzl : zs.length = n := by have := SI.out.length.1; rw [HACL.out, HRL.out] at this; omega
        by_cases hj0 : 0 < j
        · have hjn : j < zs.length := by omega
          have hj1n : j - 1 < zs.length := by omega
          have hzj : zs[j] = x := SI.out.at_ hjn
          have cj0 : wr.cell? ⟨g, j * 8, none⟩ = some (f zs[j] 0) := Ji.out.1.cell (j) 0 (hjn) (by omega)
          have cj1 : wr.cell? ⟨g, j * 8 + 1, none⟩ = some (f zs[j] 1) := Ji.out.1.cell (j) 1 (hjn) (by omega)
          have cj2 : wr.cell? ⟨g, j * 8 + 2, none⟩ = some (f zs[j] 2) := Ji.out.1.cell (j) 2 (hjn) (by omega)
          have cj3 : wr.cell? ⟨g, j * 8 + 3, none⟩ = some (f zs[j] 3) := Ji.out.1.cell (j) 3 (hjn) (by omega)
          have cj4 : wr.cell? ⟨g, j * 8 + 4, none⟩ = some (f zs[j] 4) := Ji.out.1.cell (j) 4 (hjn) (by omega)
          have cj5 : wr.cell? ⟨g, j * 8 + 5, none⟩ = some (f zs[j] 5) := Ji.out.1.cell (j) 5 (hjn) (by omega)
          have cj6 : wr.cell? ⟨g, j * 8 + 6, none⟩ = some (f zs[j] 6) := Ji.out.1.cell (j) 6 (hjn) (by omega)
          have cj7 : wr.cell? ⟨g, j * 8 + 7, none⟩ = some (f zs[j] 7) := Ji.out.1.cell (j) 7 (hjn) (by omega)
          have dj0 : wr.cell? ⟨g, (j - 1) * 8, none⟩ = some (f zs[j - 1] 0) := Ji.out.1.cell (j - 1) 0 (hj1n) (by omega)
          have dj1 : wr.cell? ⟨g, (j - 1) * 8 + 1, none⟩ = some (f zs[j - 1] 1) := Ji.out.1.cell (j - 1) 1 (hj1n) (by omega)
          have dj2 : wr.cell? ⟨g, (j - 1) * 8 + 2, none⟩ = some (f zs[j - 1] 2) := Ji.out.1.cell (j - 1) 2 (hj1n) (by omega)
          have dj3 : wr.cell? ⟨g, (j - 1) * 8 + 3, none⟩ = some (f zs[j - 1] 3) := Ji.out.1.cell (j - 1) 3 (hj1n) (by omega)
          have dj4 : wr.cell? ⟨g, (j - 1) * 8 + 4, none⟩ = some (f zs[j - 1] 4) := Ji.out.1.cell (j - 1) 4 (hj1n) (by omega)
          have dj5 : wr.cell? ⟨g, (j - 1) * 8 + 5, none⟩ = some (f zs[j - 1] 5) := Ji.out.1.cell (j - 1) 5 (hj1n) (by omega)
          have dj6 : wr.cell? ⟨g, (j - 1) * 8 + 6, none⟩ = some (f zs[j - 1] 6) := Ji.out.1.cell (j - 1) 6 (hj1n) (by omega)
          have dj7 : wr.cell? ⟨g, (j - 1) * 8 + 7, none⟩ = some (f zs[j - 1] 7) := Ji.out.1.cell (j - 1) 7 (hj1n) (by omega)
          rw [hzj] at cj0 cj1 cj2 cj3 cj4 cj5 cj6 cj7
          have hmy : Hid (zs[j - 1] ∈ ds) := by
            rcases SI.out.mem (List.getElem_mem hj1n) with h | h | h
            · exact hx.out _ h
            · show _ ∈ _; rw [h]; exact hxm.out
            · exact hR.out _ h
          have hsw := Lib.hid (fun h => SI.out.swap hj0 hjn h)
          have hdn := Lib.hid (fun (h : (fun a b => decide (c a b < 0)) x zs[j - 1] = false) => SI.out.done SI.out.length.1 (fun _ => h))
          generalize hyy : zs[j - 1] = y at dj0 dj1 dj2 dj3 dj4 dj5 dj6 dj7 hmy hsw hdn
          have HYY : Hid (∀ h : j - 1 < zs.length, zs[j - 1]'h = y) := fun _ => hyy
          have e1 : ((j : Int) - 1).toNat = j - 1 := by omega
          have e2 : IntKind.i64.wrap ((j : Int) - 1) = (j : Int) - 1 := IntWalk.i64_in _ (by omega)
          have e3 : (0 : Int) ≤ (j : Int) - 1 := by omega
          have e4 : (j : Int) - 1 < n := by omega
          have e5 : (j : Int) < n := by omega
          have e6 : 1 ≤ j := by omega
          have e7 : (1 : Int) ≤ (j : Int) := by omega
          have e8 : (j : Int) ≤ n := by omega
          have e9 : j ≤ n := by omega
          have e10 : (0 : Int) < (j : Int) := by omega
          have HZL := Lib.hid hzl
          clear hyy hzj hzl hjn hj1n
          go_wp2_with fail
          go_still_tail 14, (by kernel_rfl)
          change wpList _ _ _ _ _ wr.drew
          clear e1 e2
          go_wp2_with fail
          refine (HC.out wr.drew x y Ji.out.2.2 hxm.out hmy.out).mono ?_
          rintro e w1 ⟨rfl, hb1⟩
          have hb : Below wr.heap.size wr w1 := (Below.refl _ wr).drew.trans hb1
          have Z3 := Ji.out.1.keep hb
          have Z4 := Lib.hid (grown_below Ji.out.2.1 hb)
          have Z5 := Lib.hid (Ji.out.2.2.below hb)
          have hjn : j < zs.length := by rw [HZL.out]; omega
          clear cj0 dj0 cj1 dj1 cj2 dj2 cj3 dj3 cj4 dj4 cj5 dj5 cj6 dj6 cj7 dj7
          have hj1n : j - 1 < zs.length := by rw [HZL.out]; omega
          have hzj : zs[j] = x := SI.out.at_ hjn
          have cj0 : w1.cell? ⟨g, j * 8, none⟩ = some (f zs[j] 0) := Z3.cell (j) 0 (hjn) (by omega)
          have cj1 : w1.cell? ⟨g, j * 8 + 1, none⟩ = some (f zs[j] 1) := Z3.cell (j) 1 (hjn) (by omega)
          have cj2 : w1.cell? ⟨g, j * 8 + 2, none⟩ = some (f zs[j] 2) := Z3.cell (j) 2 (hjn) (by omega)
          have cj3 : w1.cell? ⟨g, j * 8 + 3, none⟩ = some (f zs[j] 3) := Z3.cell (j) 3 (hjn) (by omega)
          have cj4 : w1.cell? ⟨g, j * 8 + 4, none⟩ = some (f zs[j] 4) := Z3.cell (j) 4 (hjn) (by omega)
          have cj5 : w1.cell? ⟨g, j * 8 + 5, none⟩ = some (f zs[j] 5) := Z3.cell (j) 5 (hjn) (by omega)
          have cj6 : w1.cell? ⟨g, j * 8 + 6, none⟩ = some (f zs[j] 6) := Z3.cell (j) 6 (hjn) (by omega)
          have cj7 : w1.cell? ⟨g, j * 8 + 7, none⟩ = some (f zs[j] 7) := Z3.cell (j) 7 (hjn) (by omega)
          have dj0 : w1.cell? ⟨g, (j - 1) * 8, none⟩ = some (f zs[j - 1] 0) := Z3.cell (j - 1) 0 (hj1n) (by omega)
          have dj1 : w1.cell? ⟨g, (j - 1) * 8 + 1, none⟩ = some (f zs[j - 1] 1) := Z3.cell (j - 1) 1 (hj1n) (by omega)
          have dj2 : w1.cell? ⟨g, (j - 1) * 8 + 2, none⟩ = some (f zs[j - 1] 2) := Z3.cell (j - 1) 2 (hj1n) (by omega)
          have dj3 : w1.cell? ⟨g, (j - 1) * 8 + 3, none⟩ = some (f zs[j - 1] 3) := Z3.cell (j - 1) 3 (hj1n) (by omega)
          have dj4 : w1.cell? ⟨g, (j - 1) * 8 + 4, none⟩ = some (f zs[j - 1] 4) := Z3.cell (j - 1) 4 (hj1n) (by omega)
          have dj5 : w1.cell? ⟨g, (j - 1) * 8 + 5, none⟩ = some (f zs[j - 1] 5) := Z3.cell (j - 1) 5 (hj1n) (by omega)
          have dj6 : w1.cell? ⟨g, (j - 1) * 8 + 6, none⟩ = some (f zs[j - 1] 6) := Z3.cell (j - 1) 6 (hj1n) (by omega)
          have dj7 : w1.cell? ⟨g, (j - 1) * 8 + 7, none⟩ = some (f zs[j - 1] 7) := Z3.cell (j - 1) 7 (hj1n) (by omega)
          have fj0 := Z3.frozen (j * 8)
          have fj1 := Z3.frozen (j * 8 + 1)
          have fj2 := Z3.frozen (j * 8 + 2)
          have fj3 := Z3.frozen (j * 8 + 3)
          have fj4 := Z3.frozen (j * 8 + 4)
          have fj5 := Z3.frozen (j * 8 + 5)
          have fj6 := Z3.frozen (j * 8 + 6)
          have fj7 := Z3.frozen (j * 8 + 7)
          have gj0 := Z3.frozen ((j - 1) * 8)
          have gj1 := Z3.frozen ((j - 1) * 8 + 1)
          have gj2 := Z3.frozen ((j - 1) * 8 + 2)
          have gj3 := Z3.frozen ((j - 1) * 8 + 3)
          have gj4 := Z3.frozen ((j - 1) * 8 + 4)
          have gj5 := Z3.frozen ((j - 1) * 8 + 5)
          have gj6 := Z3.frozen ((j - 1) * 8 + 6)
          have gj7 := Z3.frozen ((j - 1) * 8 + 7)
          rw [hzj] at cj0 cj1 cj2 cj3 cj4 cj5 cj6 cj7
          rw [HYY.out hj1n] at dj0 dj1 dj2 dj3 dj4 dj5 dj6 dj7
          have ZP := Lib.hid ((Z3.put j hjn y).put (j - 1) (by simp; omega) x)
          have Z3h := Lib.hid Z3
          clear Z3 hb hb1 Ji hjn hj1n hzj HYY
          by_cases hr : c x y < 0
          · have JS := Lib.hid (hsw.out (by simpa using hr))
            have na0 : ¬ j * 8 = (j - 1) * 8 := by omega
            have nb0 : ¬ (j - 1) * 8 = j * 8 := by omega
            have na1 : ¬ j * 8 = (j - 1) * 8 + 1 := by omega
            have nb1 : ¬ (j - 1) * 8 + 1 = j * 8 := by omega
            have na2 : ¬ j * 8 = (j - 1) * 8 + 2 := by omega
            have nb2 : ¬ (j - 1) * 8 + 2 = j * 8 := by omega
            have na3 : ¬ j * 8 = (j - 1) * 8 + 3 := by omega
            have nb3 : ¬ (j - 1) * 8 + 3 = j * 8 := by omega
            have na4 : ¬ j * 8 = (j - 1) * 8 + 4 := by omega
            have nb4 : ¬ (j - 1) * 8 + 4 = j * 8 := by omega
            have na5 : ¬ j * 8 = (j - 1) * 8 + 5 := by omega
            have nb5 : ¬ (j - 1) * 8 + 5 = j * 8 := by omega
            have na6 : ¬ j * 8 = (j - 1) * 8 + 6 := by omega
            have nb6 : ¬ (j - 1) * 8 + 6 = j * 8 := by omega
            have na7 : ¬ j * 8 = (j - 1) * 8 + 7 := by omega
            have nb7 : ¬ (j - 1) * 8 + 7 = j * 8 := by omega
            have na8 : ¬ j * 8 + 1 = (j - 1) * 8 := by omega
            have nb8 : ¬ (j - 1) * 8 = j * 8 + 1 := by omega
            have na9 : ¬ j * 8 + 1 = (j - 1) * 8 + 1 := by omega
            have nb9 : ¬ (j - 1) * 8 + 1 = j * 8 + 1 := by omega
            have na10 : ¬ j * 8 + 1 = (j - 1) * 8 + 2 := by omega
            have nb10 : ¬ (j - 1) * 8 + 2 = j * 8 + 1 := by omega
            have na11 : ¬ j * 8 + 1 = (j - 1) * 8 + 3 := by omega
            have nb11 : ¬ (j - 1) * 8 + 3 = j * 8 + 1 := by omega
            have na12 : ¬ j * 8 + 1 = (j - 1) * 8 + 4 := by omega
            have nb12 : ¬ (j - 1) * 8 + 4 = j * 8 + 1 := by omega
            have na13 : ¬ j * 8 + 1 = (j - 1) * 8 + 5 := by omega
            have nb13 : ¬ (j - 1) * 8 + 5 = j * 8 + 1 := by omega
            have na14 : ¬ j * 8 + 1 = (j - 1) * 8 + 6 := by omega
            have nb14 : ¬ (j - 1) * 8 + 6 = j * 8 + 1 := by omega
            have na15 : ¬ j * 8 + 1 = (j - 1) * 8 + 7 := by omega
            have nb15 : ¬ (j - 1) * 8 + 7 = j * 8 + 1 := by omega
            have na16 : ¬ j * 8 + 2 = (j - 1) * 8 := by omega
            have nb16 : ¬ (j - 1) * 8 = j * 8 + 2 := by omega
            have na17 : ¬ j * 8 + 2 = (j - 1) * 8 + 1 := by omega
            have nb17 : ¬ (j - 1) * 8 + 1 = j * 8 + 2 := by omega
            have na18 : ¬ j * 8 + 2 = (j - 1) * 8 + 2 := by omega
            have nb18 : ¬ (j - 1) * 8 + 2 = j * 8 + 2 := by omega
            have na19 : ¬ j * 8 + 2 = (j - 1) * 8 + 3 := by omega
            have nb19 : ¬ (j - 1) * 8 + 3 = j * 8 + 2 := by omega
            have na20 : ¬ j * 8 + 2 = (j - 1) * 8 + 4 := by omega
            have nb20 : ¬ (j - 1) * 8 + 4 = j * 8 + 2 := by omega
            have na21 : ¬ j * 8 + 2 = (j - 1) * 8 + 5 := by omega
            have nb21 : ¬ (j - 1) * 8 + 5 = j * 8 + 2 := by omega
            have na22 : ¬ j * 8 + 2 = (j - 1) * 8 + 6 := by omega
            have nb22 : ¬ (j - 1) * 8 + 6 = j * 8 + 2 := by omega
            have na23 : ¬ j * 8 + 2 = (j - 1) * 8 + 7 := by omega
            have nb23 : ¬ (j - 1) * 8 + 7 = j * 8 + 2 := by omega
            have na24 : ¬ j * 8 + 3 = (j - 1) * 8 := by omega
            have nb24 : ¬ (j - 1) * 8 = j * 8 + 3 := by omega
            have na25 : ¬ j * 8 + 3 = (j - 1) * 8 + 1 := by omega
            have nb25 : ¬ (j - 1) * 8 + 1 = j * 8 + 3 := by omega
            have na26 : ¬ j * 8 + 3 = (j - 1) * 8 + 2 := by omega
            have nb26 : ¬ (j - 1) * 8 + 2 = j * 8 + 3 := by omega
            have na27 : ¬ j * 8 + 3 = (j - 1) * 8 + 3 := by omega
            have nb27 : ¬ (j - 1) * 8 + 3 = j * 8 + 3 := by omega
            have na28 : ¬ j * 8 + 3 = (j - 1) * 8 + 4 := by omega
            have nb28 : ¬ (j - 1) * 8 + 4 = j * 8 + 3 := by omega
            have na29 : ¬ j * 8 + 3 = (j - 1) * 8 + 5 := by omega
            have nb29 : ¬ (j - 1) * 8 + 5 = j * 8 + 3 := by omega
            have na30 : ¬ j * 8 + 3 = (j - 1) * 8 + 6 := by omega
            have nb30 : ¬ (j - 1) * 8 + 6 = j * 8 + 3 := by omega
            have na31 : ¬ j * 8 + 3 = (j - 1) * 8 + 7 := by omega
            have nb31 : ¬ (j - 1) * 8 + 7 = j * 8 + 3 := by omega
            have na32 : ¬ j * 8 + 4 = (j - 1) * 8 := by omega
            have nb32 : ¬ (j - 1) * 8 = j * 8 + 4 := by omega
            have na33 : ¬ j * 8 + 4 = (j - 1) * 8 + 1 := by omega
            have nb33 : ¬ (j - 1) * 8 + 1 = j * 8 + 4 := by omega
            have na34 : ¬ j * 8 + 4 = (j - 1) * 8 + 2 := by omega
            have nb34 : ¬ (j - 1) * 8 + 2 = j * 8 + 4 := by omega
            have na35 : ¬ j * 8 + 4 = (j - 1) * 8 + 3 := by omega
            have nb35 : ¬ (j - 1) * 8 + 3 = j * 8 + 4 := by omega
            have na36 : ¬ j * 8 + 4 = (j - 1) * 8 + 4 := by omega
            have nb36 : ¬ (j - 1) * 8 + 4 = j * 8 + 4 := by omega
            have na37 : ¬ j * 8 + 4 = (j - 1) * 8 + 5 := by omega
            have nb37 : ¬ (j - 1) * 8 + 5 = j * 8 + 4 := by omega
            have na38 : ¬ j * 8 + 4 = (j - 1) * 8 + 6 := by omega
            have nb38 : ¬ (j - 1) * 8 + 6 = j * 8 + 4 := by omega
            have na39 : ¬ j * 8 + 4 = (j - 1) * 8 + 7 := by omega
            have nb39 : ¬ (j - 1) * 8 + 7 = j * 8 + 4 := by omega
            have na40 : ¬ j * 8 + 5 = (j - 1) * 8 := by omega
            have nb40 : ¬ (j - 1) * 8 = j * 8 + 5 := by omega
            have na41 : ¬ j * 8 + 5 = (j - 1) * 8 + 1 := by omega
            have nb41 : ¬ (j - 1) * 8 + 1 = j * 8 + 5 := by omega
            have na42 : ¬ j * 8 + 5 = (j - 1) * 8 + 2 := by omega
            have nb42 : ¬ (j - 1) * 8 + 2 = j * 8 + 5 := by omega
            have na43 : ¬ j * 8 + 5 = (j - 1) * 8 + 3 := by omega
            have nb43 : ¬ (j - 1) * 8 + 3 = j * 8 + 5 := by omega
            have na44 : ¬ j * 8 + 5 = (j - 1) * 8 + 4 := by omega
            have nb44 : ¬ (j - 1) * 8 + 4 = j * 8 + 5 := by omega
            have na45 : ¬ j * 8 + 5 = (j - 1) * 8 + 5 := by omega
            have nb45 : ¬ (j - 1) * 8 + 5 = j * 8 + 5 := by omega
            have na46 : ¬ j * 8 + 5 = (j - 1) * 8 + 6 := by omega
            have nb46 : ¬ (j - 1) * 8 + 6 = j * 8 + 5 := by omega
            have na47 : ¬ j * 8 + 5 = (j - 1) * 8 + 7 := by omega
            have nb47 : ¬ (j - 1) * 8 + 7 = j * 8 + 5 := by omega
            have na48 : ¬ j * 8 + 6 = (j - 1) * 8 := by omega
            have nb48 : ¬ (j - 1) * 8 = j * 8 + 6 := by omega
            have na49 : ¬ j * 8 + 6 = (j - 1) * 8 + 1 := by omega
            have nb49 : ¬ (j - 1) * 8 + 1 = j * 8 + 6 := by omega
            have na50 : ¬ j * 8 + 6 = (j - 1) * 8 + 2 := by omega
            have nb50 : ¬ (j - 1) * 8 + 2 = j * 8 + 6 := by omega
            have na51 : ¬ j * 8 + 6 = (j - 1) * 8 + 3 := by omega
            have nb51 : ¬ (j - 1) * 8 + 3 = j * 8 + 6 := by omega
            have na52 : ¬ j * 8 + 6 = (j - 1) * 8 + 4 := by omega
            have nb52 : ¬ (j - 1) * 8 + 4 = j * 8 + 6 := by omega
            have na53 : ¬ j * 8 + 6 = (j - 1) * 8 + 5 := by omega
            have nb53 : ¬ (j - 1) * 8 + 5 = j * 8 + 6 := by omega
            have na54 : ¬ j * 8 + 6 = (j - 1) * 8 + 6 := by omega
            have nb54 : ¬ (j - 1) * 8 + 6 = j * 8 + 6 := by omega
            have na55 : ¬ j * 8 + 6 = (j - 1) * 8 + 7 := by omega
            have nb55 : ¬ (j - 1) * 8 + 7 = j * 8 + 6 := by omega
            have na56 : ¬ j * 8 + 7 = (j - 1) * 8 := by omega
            have nb56 : ¬ (j - 1) * 8 = j * 8 + 7 := by omega
            have na57 : ¬ j * 8 + 7 = (j - 1) * 8 + 1 := by omega
            have nb57 : ¬ (j - 1) * 8 + 1 = j * 8 + 7 := by omega
            have na58 : ¬ j * 8 + 7 = (j - 1) * 8 + 2 := by omega
            have nb58 : ¬ (j - 1) * 8 + 2 = j * 8 + 7 := by omega
            have na59 : ¬ j * 8 + 7 = (j - 1) * 8 + 3 := by omega
            have nb59 : ¬ (j - 1) * 8 + 3 = j * 8 + 7 := by omega
            have na60 : ¬ j * 8 + 7 = (j - 1) * 8 + 4 := by omega
            have nb60 : ¬ (j - 1) * 8 + 4 = j * 8 + 7 := by omega
            have na61 : ¬ j * 8 + 7 = (j - 1) * 8 + 5 := by omega
            have nb61 : ¬ (j - 1) * 8 + 5 = j * 8 + 7 := by omega
            have na62 : ¬ j * 8 + 7 = (j - 1) * 8 + 6 := by omega
            have nb62 : ¬ (j - 1) * 8 + 6 = j * 8 + 7 := by omega
            have na63 : ¬ j * 8 + 7 = (j - 1) * 8 + 7 := by omega
            have nb63 : ¬ (j - 1) * 8 + 7 = j * 8 + 7 := by omega
            have e1 : ((j : Int) - 1).toNat = j - 1 := by omega
            have hst : ∀ (m : Nat) (ad : Addr) (mo : Mode) (W : World), Sem.run Tryz.prog (store ad (f x m) mo) W = stored Tryz.prog W ad (f x m) mo := fun m ad mo W => run_store _ W ad _ mo (HF1.out x hxm.out m)
            have hst' : ∀ (m : Nat) (ad : Addr) (mo : Mode) (W : World), Sem.run Tryz.prog (store ad (f y m) mo) W = stored Tryz.prog W ad (f y m) mo := fun m ad mo W => run_store _ W ad _ mo (HF1.out y hmy.out m)
            go_upto_region 6 with (fail)
            go_region
            clear hst hst'
            have JN : Hid (SW_Sta H g 38 8 f rest w ((zs.set j y).set (j - 1) x) (World.drew (setK (setK w1 g (j * 8) ((List.range 8).map (f y))) g ((j - 1) * 8) ((List.range 8).map (f x))))) := SW_mk_Sta ZP.out (setK_grown _ _ (setK_grown _ _ Z4.out)) (setK_in _ _ (setK_in _ _ Z5.out hg) hg)
            clear cj0 dj0 fj0 gj0 cj1 dj1 fj1 gj1 cj2 dj2 fj2 gj2 cj3 dj3 fj3 gj3 cj4 dj4 fj4 gj4 cj5 dj5 fj5 gj5 cj6 dj6 fj6 gj6 cj7 dj7 fj7 gj7 ZP Z4 Z5 hsw hdn na0 nb0 na1 nb1 na2 nb2 na3 nb3 na4 nb4 na5 nb5 na6 nb6 na7 nb7 na8 nb8 na9 nb9 na10 nb10 na11 nb11 na12 nb12 na13 nb13 na14 nb14 na15 nb15 na16 nb16 na17 nb17 na18 nb18 na19 nb19 na20 nb20 na21 nb21 na22 nb22 na23 nb23 na24 nb24 na25 nb25 na26 nb26 na27 nb27 na28 nb28 na29 nb29 na30 nb30 na31 nb31 na32 nb32 na33 nb33 na34 nb34 na35 nb35 na36 nb36 na37 nb37 na38 nb38 na39 nb39 na40 nb40 na41 nb41 na42 nb42 na43 nb43 na44 nb44 na45 nb45 na46 nb46 na47 nb47 na48 nb48 na49 nb49 na50 nb50 na51 nb51 na52 nb52 na53 nb53 na54 nb54 na55 nb55 na56 nb56 na57 nb57 na58 nb58 na59 nb59 na60 nb60 na61 nb61 na62 nb62 na63 nb63
            go_wp2_with fail
            refine ⟨⟨j - 1, _, by omega, by rw [show ((j : Int) - 1) = ((j - 1 : Nat) : Int) from by omega], JS, JN⟩, ?_⟩
            simp only [intOf]
            omega
          · have hzz := Lib.hid (hdn.out (by simpa using hr))
            have JN : Hid (SW_Sta H g 38 8 f rest w zs w1) := ⟨Z3h.out, Z4.out, Z5.out⟩
            clear cj0 dj0 fj0 gj0 cj1 dj1 fj1 gj1 cj2 dj2 fj2 gj2 cj3 dj3 fj3 gj3 cj4 dj4 fj4 gj4 cj5 dj5 fj5 gj5 cj6 dj6 fj6 gj6 cj7 dj7 fj7 gj7 ZP Z4 Z5 hsw hdn
            go_wp2_with fail
            refine ⟨⟨i + 1, zs, by omega, by omega, by go_num, ?_, JN⟩, ?_⟩
            · show _ = _
              rw [hstep.out, HRR.out]
              exact hzz.out
            · simp only [intOf]
              omega
        · have hj1 : j = 0 := by omega
          subst hj1
          have hzz := Lib.hid (SI.out.done SI.out.length.1 (fun h => absurd h (by omega)))
          have HZL := Lib.hid hzl
          clear hzl
          go_wp2_with fail
          go_quiet (fail)
          go_wp2_with fail
          refine ⟨⟨i + 1, zs, by omega, by omega, by go_num, ?_, Ji.out.1, grown_drewN' Ji.out.2.1 _, Ji.out.2.2⟩, ?_⟩
          · show _ = _
            rw [hstep.out, HRR.out]
            exact hzz.out
          · simp only [intOf]
            omega
    · have hys2 := Lib.hid (show ys = isort (fun a b => decide (c a b < 0)) ds by have := hys.out; rw [List.take_of_length_le (by rw [HN.out]; omega), List.drop_of_length_le (by rw [HN.out]; omega), List.append_nil] at this; exact this)
      go_wp2_with fail
      go_end0
      refine ⟨rfl, ?_⟩
      rw [← hys2.out]
      exact J.out

set_option maxHeartbeats 1000000 in
theorem stable_Sta (H : Frz) (f : D → Nat → Value) (kf : Nat) (caps : List Value) (c : D → D → Int) (ds : List D) (hf1 : ∀ d ∈ ds, ∀ m, (f d m).oneCell' = true) (hcmp : CmpK_Sta H f kf caps c ds) (hcall : ∀ (a b : Value) (W : World), (callFunc kf (a :: b :: caps).toArray).run Tryz.prog W = .ok (.enter kf (a :: b :: caps).toArray) W) (g n cap : Nat) (rest : List Value) (w : World)
    (hn : ds.length = n) (hcap : n ≤ cap) (hn20 : n < 20) (hH : H.In w) (hg : H g = none) (hB : KBlk w g 38 8 f ds rest) :
    Calls Tryz.prog 143 #[.slice (some ⟨g, 0, none⟩) n cap, .int .i64 n, .func (.func kf) #[] caps.toArray] w fun e w' =>
      e = .returned (.tuple #[]) ∧ SW_Sta H g 38 8 f rest w (isort (fun a b => decide (c a b < 0)) ds) w' := by
  have HI := Lib.hid (insort_Sta H f kf caps c ds hf1 hcmp hcall g n cap rest w hn hcap (by omega) hH hg hB)
  clear hcmp hcall hH hB hn hg hf1
  go_enter Tryz.func143, Tryz.ntmps143
  go_wp2_with fail
  refine wp_loop_rounds 1 ?_
  rw [rounds_succ]
  go_wp2_with fail
  refine HI.out.mono ?_
  rintro e w1 ⟨rfl, J⟩
  have J := Lib.hid J
  clear HI
  go_wp2_with fail
  refine wp_loop_rounds 1 ?_
  rw [rounds_succ]
  go_wp2_with fail
  go_end0
  exact ⟨rfl, J.out⟩
set_option maxHeartbeats 1000000 in
theorem stable_nil_Sta (A : Option Addr) (cap : Nat) (fv : Value) (w : World) :
    Calls Tryz.prog 107 #[.slice A 0 cap, fv] w fun e w' => e = .returned (.tuple #[]) ∧ w = w' := by
  go_enter Tryz.func107, Tryz.ntmps107
  go_wp2
  refine wp_loop_rounds 1 ?_
  rw [rounds_succ]
  go_wp2
  refine wp_loop_rounds 1 ?_
  rw [rounds_succ]
  go_wp2
  go_end0
  go_wp2
  refine wp_loop_rounds 1 ?_
  rw [rounds_succ]
  go_wp2
  go_end0
  go_wp2
  go_end0
  exact ⟨rfl, rfl⟩
set_option maxHeartbeats 1000000 in
theorem sortStable_Sta (H : Frz) (f : D → Nat → Value) (kf : Nat) (caps : List Value) (c : D → D → Int) (ds : List D) (hf1 : ∀ d ∈ ds, ∀ m, (f d m).oneCell' = true) (hcmp : CmpK_Sta H f kf caps c ds) (hcall : ∀ (a b : Value) (W : World), (callFunc kf (a :: b :: caps).toArray).run Tryz.prog W = .ok (.enter kf (a :: b :: caps).toArray) W) (v : Value) (B : Nat) (w : World)
    (hn20 : ds.length < 20) (hH : H.In w) (hHB : ∀ g, v.ownBlock = some g → H g = none) (hO : Orow w B 38 8 f v ds) :
    Calls Tryz.prog 107 #[v, .func (.func kf) #[] caps.toArray] w fun e w' =>
      e = .returned (.tuple #[]) ∧ Orow w' B 38 8 f v (isort (fun a b => decide (c a b < 0)) ds) ∧ w.grownBy w' v.ownBlock ∧ H.In w' := by
  rcases hO.2 with ⟨rfl, h0⟩ | ⟨g, cap, cur, rfl, hBg, hh, hle, hm, hs, ht⟩
  · have : ds = [] := List.eq_nil_of_length_eq_zero h0
    subst this
    refine (stable_nil_Sta none 0 _ w).mono ?_
    rintro e w' ⟨rfl, rfl⟩
    exact ⟨rfl, hO, World.grownBy.refl _ _, hH⟩
  · have hK : KBlk w g 38 8 f ds (cur.toList.drop (ds.length * 8)) := by
      unfold KBlk
      rw [← ht, List.take_append_drop]
      exact hh
    have HI := Lib.hid (stable_Sta H f kf caps c ds hf1 hcmp hcall g ds.length cap _ w rfl hle hn20 hH (hHB g rfl) hK)
    clear hcmp hcall hH hO hK hHB hf1
    go_enter Tryz.func107, Tryz.ntmps107
    go_wp2_with fail
    refine HI.out.mono ?_
    rintro e w1 ⟨rfl, J⟩
    have J := Lib.hid J
    clear HI
    go_wp2_with fail
    go_end0
    refine ⟨rfl, ?_, J.out.2.1, J.out.2.2⟩
    have h1 := J.out.1
    refine ⟨by rw [cellsOf_len], Or.inr ⟨g, cap, _, by rw [isort_length], hBg, h1, by rw [isort_length]; exact hle, hm, ?_, ?_⟩⟩
    · simp [cellsOf_len, isort_length, hs]
      have := Nat.mul_le_mul_right 8 hle
      omega
    · rw [isort_length]
      simp
      rw [List.take_left' (by rw [cellsOf_len, isort_length])]
end
end Go.Proofs.YtmlpfbffecdepaaGreatDoor

/- Consents: what an id said by a channel; a question of one id. -/
namespace Go.Proofs.YtmlpfbffecdepaaGreatDoor
set_option linter.unusedVariables false
open Go.RowKit
def SaidPost (w : World) (ss : List StD) (e : Ending) (w' : World) : Prop := ∃ v, e = .returned v ∧ Orow w' w.heap.size 38 8 fSt v ss ∧ Below w.heap.size w w'
set_option maxHeartbeats 4000000 in
set_option maxRecDepth 100000 in
theorem saidBy_any (H : Frz) (A : Option Addr) (cap : Nat) (ss : List StD) (kind : Int) (text : ByteArray) (ch : Int) (w : World) (hH : H.In w) (hR : Rw H A 8 fSt ss) (hl : ss.length < 20) :
    Calls Tryz.prog 69 #[.slice A ss.length cap, .agg #[.int .i64 kind, .string text], .int .i64 ch] w (SaidPost w (saidF ss kind text ch)) := by
  obtain ⟨i0, hi0, hz0, hz1, hz2⟩ := info_parts infoSta
  have HR := Lib.hid hR
  have HH := Lib.hid hH
  have HI0 : Hid (Orow (w.alloc (.cells #[.int .i64 kind, .string text] 32)) (w.heap.size + 1) 38 8 fSt (.slice none 0 0) ((ss.take 0).filter (ownB kind text ch)) ∧ Below w.heap.size w (w.alloc (.cells #[.int .i64 kind, .string text] 32)) ∧ (w.alloc (.cells #[.int .i64 kind, .string text] 32)).heap[w.heap.size]? = some (.cells #[.int .i64 kind, .string text] 32 (0, 0))) := ⟨Orow.nil _ _ _ _ _, new1 _, heap_alloc_new _ _⟩
  clear hR hH
  go_enter Tryz.func69, Tryz.ntmps69
  go_wp2_with fail
  go_loopw [7, 12] (fun v t wr => ∃ i : Nat, i ≤ ss.length ∧ t = .int .i64 i ∧ Hid (Orow wr (w.heap.size + 1) 38 8 fSt v ((ss.take i).filter (ownB kind text ch)) ∧ Below w.heap.size w wr ∧ wr.heap[w.heap.size]? = some (.cells #[.int .i64 kind, .string text] 32 (0, 0)))) (fun _ t _ => ss.length - (intOf t).toNat)
  case atStart => exact ⟨0, by omega, rfl, HI0⟩
  case round =>
    obtain ⟨i, hi, rfl, hI⟩ := hrel
    obtain ⟨hor, hb, hk⟩ := hI.out
    clear HI0
    by_cases hlt : i < ss.length
    · obtain ⟨b, off, rfl, hbl, hc⟩ := HR.out.at_ (HH.out.below hb) hlt (by omega)
      have c0 : wr.cell? ⟨b, off + i * 8, none⟩ = some (.int .i64 ss[i].no) := hc 0 (by omega)
      have c1 : wr.cell? ⟨b, off + i * 8 + 1, none⟩ = some (.int .i64 ss[i].at_) := hc 1 (by omega)
      have c2 : wr.cell? ⟨b, off + i * 8 + 2, none⟩ = some (.int .i64 ss[i].kind) := hc 2 (by omega)
      have c3 : wr.cell? ⟨b, off + i * 8 + 3, none⟩ = some (.string ss[i].text) := hc 3 (by omega)
      have c4 : wr.cell? ⟨b, off + i * 8 + 4, none⟩ = some (.string ss[i].purp) := hc 4 (by omega)
      have c5 : wr.cell? ⟨b, off + i * 8 + 5, none⟩ = some (.string ss[i].region) := hc 5 (by omega)
      have c6 : wr.cell? ⟨b, off + i * 8 + 6, none⟩ = some (.int .i64 ss[i].ch) := hc 6 (by omega)
      have c7 : wr.cell? ⟨b, off + i * 8 + 7, none⟩ = some (.int .i64 ss[i].what) := hc 7 (by omega)
      have HSN := Lib.hid (filter_snoc (ownB kind text ch) hlt)
      have hlen : ((ss.take i).filter (ownB kind text ch)).length ≤ 1000000 := by
        have := List.length_filter_le (ownB kind text ch) (ss.take i)
        have := List.length_take_le i ss
        omega
      clear hc
      generalize ss[i] = d at *
      have z0 : (wr.alloc (.cells #[.int .i64 d.no, .int .i64 d.at_, .int .i64 d.kind, .string d.text, .string d.purp, .string d.region, .int .i64 d.ch, .int .i64 d.what] 38)).cell? ⟨wr.heap.size, 0, none⟩ = some (.int .i64 d.no) := newc 0 rfl
      have z1 : (wr.alloc (.cells #[.int .i64 d.no, .int .i64 d.at_, .int .i64 d.kind, .string d.text, .string d.purp, .string d.region, .int .i64 d.ch, .int .i64 d.what] 38)).cell? ⟨wr.heap.size, 1, none⟩ = some (.int .i64 d.at_) := newc 1 rfl
      have z2 : (wr.alloc (.cells #[.int .i64 d.no, .int .i64 d.at_, .int .i64 d.kind, .string d.text, .string d.purp, .string d.region, .int .i64 d.ch, .int .i64 d.what] 38)).cell? ⟨wr.heap.size, 2, none⟩ = some (.int .i64 d.kind) := newc 2 rfl
      have z3 : (wr.alloc (.cells #[.int .i64 d.no, .int .i64 d.at_, .int .i64 d.kind, .string d.text, .string d.purp, .string d.region, .int .i64 d.ch, .int .i64 d.what] 38)).cell? ⟨wr.heap.size, 3, none⟩ = some (.string d.text) := newc 3 rfl
      have z4 : (wr.alloc (.cells #[.int .i64 d.no, .int .i64 d.at_, .int .i64 d.kind, .string d.text, .string d.purp, .string d.region, .int .i64 d.ch, .int .i64 d.what] 38)).cell? ⟨wr.heap.size, 4, none⟩ = some (.string d.purp) := newc 4 rfl
      have z5 : (wr.alloc (.cells #[.int .i64 d.no, .int .i64 d.at_, .int .i64 d.kind, .string d.text, .string d.purp, .string d.region, .int .i64 d.ch, .int .i64 d.what] 38)).cell? ⟨wr.heap.size, 5, none⟩ = some (.string d.region) := newc 5 rfl
      have z6 : (wr.alloc (.cells #[.int .i64 d.no, .int .i64 d.at_, .int .i64 d.kind, .string d.text, .string d.purp, .string d.region, .int .i64 d.ch, .int .i64 d.what] 38)).cell? ⟨wr.heap.size, 6, none⟩ = some (.int .i64 d.ch) := newc 6 rfl
      have z7 : (wr.alloc (.cells #[.int .i64 d.no, .int .i64 d.at_, .int .i64 d.kind, .string d.text, .string d.purp, .string d.region, .int .i64 d.ch, .int .i64 d.what] 38)).cell? ⟨wr.heap.size, 7, none⟩ = some (.int .i64 d.what) := newc 7 rfl
      have HBN := Lib.hid (new1 (w := wr) (.cells #[.int .i64 d.no, .int .i64 d.at_, .int .i64 d.kind, .string d.text, .string d.purp, .string d.region, .int .i64 d.ch, .int .i64 d.what] 38))
      go_upto_region 5 with (fail)
      clear c0 c1 c2 c3 c4 c5 c6 c7
      have hk1 := (HBN.out.block _ (lt_of_heap hk)).trans hk
      have hne : ¬ wr.heap.size = w.heap.size := by have := lt_of_heap hk; omega
      have hne' : ¬ w.heap.size = wr.heap.size := by omega
      have HO1 := Lib.hid (hor.below HBN.out)
      generalize wr.alloc (.cells #[.int .i64 d.no, .int .i64 d.at_, .int .i64 d.kind, .string d.text, .string d.purp, .string d.region, .int .i64 d.ch, .int .i64 d.what] 38) = W1 at *
      have HB1 := Lib.hid (hb.trans (HBN.out.mono hb.size))
      have HK1 := Lib.hid hk1
      have x0 : W1.cell? ⟨w.heap.size, 0, none⟩ = some (.int .i64 kind) := cell_h hk1 0 rfl
      have x1 : W1.cell? ⟨w.heap.size, 1, none⟩ = some (.string text) := cell_h hk1 1 rfl
      have hBw : w.heap.size + 1 ≤ W1.heap.size := lt_of_heap hk1
      generalize (ss.take i).filter (ownB kind text ch) = ds at HO1 HSN hlen
      clear hb HBN hk1 hk hor hI
      by_cases hall : ownB kind text ch d = true
      · have HS := Lib.hid (HSN.out.trans (by rw [if_pos hall]))
        obtain ⟨⟨h1, h2⟩, h3⟩ : ((decide (d.kind = kind) = true ∧ eqS d.text text = true) ∧ decide (d.ch = ch) = true) := by simpa only [ownB, Bool.and_eq_true] using hall
        have k1 : (d.kind == kind) = true := by simpa using h1
        have k2 : (d.text.toList == text.toList) = true := h2
        have k3 : (d.ch == ch) = true := by simpa using h3
        clear hall h1 h2 h3
        go_wp2_with (at_builtin; refine wpList_app_at rfl _ _ 87 rfl (w.heap.size + 1) 38 i0 (.agg #[.int .i64 0, .int .i64 0, .int .i64 0, .string ⟨#[]⟩, .string ⟨#[]⟩, .string ⟨#[]⟩, .int .i64 0, .int .i64 0]) 8 88 Tryz.underlying87 hi0 hz0 hz1 hz2 rfl (by decide) fSt _ ds rfl HO1.out d #[.int .i64 d.no, .int .i64 d.at_, .int .i64 d.kind, .string d.text, .string d.purp, .string d.region, .int .i64 d.ch, .int .i64 d.what] 38 rfl rfl (by simp [Value.oneCell']) (by omega) (by omega) hBw ?_; intro v1 w2 o1 g1 b1 at1; have HO2 := Lib.hid o1; have HB2 := Lib.hid (HB1.out.trans (b1.mono (by omega))); have HK2 := Lib.hid ((b1.block w.heap.size (by omega)).trans HK1.out); clear o1 g1 b1 at1)
        rw [← HS.out] at HO2
        have HF := Lib.hid (And.intro HO2.out (And.intro HB2.out HK2.out))
        go_roundw
        case rel => exact ⟨i + 1, by omega, by go_num, HF⟩
        case measure => simp [intOf]; omega
      · have HS := Lib.hid (HSN.out.trans (by rw [if_neg hall, List.append_nil]))
        rw [← HS.out] at HO1
        have HF := Lib.hid (And.intro HO1.out (And.intro HB1.out HK1.out))
        cases k1 : (d.kind == kind) with
        | false =>
          clear hall
          go_wp2_with fail
          go_roundw
          case rel => exact ⟨i + 1, by omega, by go_num, HF⟩
          case measure => simp [intOf]; omega
        | true =>
          cases k2 : (d.text.toList == text.toList) with
          | false =>
            clear hall
            go_wp2_with fail
            go_roundw
            case rel => exact ⟨i + 1, by omega, by go_num, HF⟩
            case measure => simp [intOf]; omega
          | true =>
            have k3 : (d.ch == ch) = false := by
              cases k3 : (d.ch == ch) with
              | false => rfl
              | true =>
                exfalso
                apply hall
                have e1 : decide (d.kind = kind) = true := by simpa using k1
                have e2 : eqS d.text text = true := k2
                have e3 : decide (d.ch = ch) = true := by simpa using k3
                rw [show ownB kind text ch d = ((decide (d.kind = kind) && eqS d.text text) && decide (d.ch = ch)) from rfl, e1, e2, e3]; rfl
            clear hall
            go_wp2_with fail
            go_roundw
            case rel => exact ⟨i + 1, by omega, by go_num, HF⟩
            case measure => simp [intOf]; omega
    · have hie : i = ss.length := by omega
      subst hie
      obtain ⟨vg, rfl⟩ : ∃ vg : Value, vg = u7 := ⟨_, rfl⟩
      rw [List.take_length] at hor
      have hfl : (ss.filter (ownB kind text ch)).length < 20 := by have := List.length_filter_le (ownB kind text ch) ss; omega
      have hso := sortStable_Sta H fSt 108 [] stCmp (ss.filter (ownB kind text ch)) (fun d _ m => by
        match m with
        | 0 => rfl
        | 1 => rfl
        | 2 => rfl
        | 3 => rfl
        | 4 => rfl
        | 5 => rfl
        | 6 => rfl
        | n + 7 => rfl) (fun W a b _ _ _ => saidOrd_any a b W) (fun _ _ _ => by kernel_rfl) vg (w.heap.size + 1) wr hfl ((HH.out.below hb)) (fun g hg => HH.out.none_ (by have := (hor.lt hg).1; omega)) hor
      have HSO := Lib.hid hso
      have HB := Lib.hid hb
      have HVG : Hid (∀ g, vg.ownBlock = some g → w.heap.size ≤ g) := fun g hg => by have := (hor.lt hg).1; omega
      have HV : Hid (isort (fun a b => decide (stCmp a b < 0)) (ss.filter (ownB kind text ch)) = saidF ss kind text ch) := rfl
      clear hso hb hor hk hI
      go_wp2_with fail
      refine HSO.out.mono ?_
      rintro e w2 ⟨rfl, ho2, hg2, hin2⟩
      have HF : Hid (SaidPost w (saidF ss kind text ch) (.returned vg) w2) := ⟨vg, rfl, by rw [← HV.out]; exact ho2.mono (by omega), HB.out.grown hg2 HB.out.size HVG.out⟩
      clear ho2 hg2 hin2 HSO
      go_wp2_with fail
      go_ret
      exact HF.out
end Go.Proofs.YtmlpfbffecdepaaGreatDoor
