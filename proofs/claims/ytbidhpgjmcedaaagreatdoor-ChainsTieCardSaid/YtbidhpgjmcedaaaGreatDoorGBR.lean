/- Texts of this claim, put together: Neigh, TieC, Que. -/
import Derived.Test.YtbidhpgjmcedaaaGreatDoorGBN
import Derived.Test.YtbidhpgjmcedaaaGreatDoorGBQ
import Derived.Test.YtbidhpgjmcedaaaGreatDoorGBL
import Derived.Test.YtbidhpgjmcedaaaGreatDoorGAH
import Derived.ArgAppend
/- The touches that share an id that joins with one. -/
namespace Go.Proofs.YtbidhpgjmcedaaaGreatDoor
set_option linter.unusedVariables false
open Go.RowKit
theorem GrpIn.look2 {H : Frz} {gp bm n : Nat} {m : Lit → Option Value} {r : RulD} {A : Option Addr} {cap : Nat} {ts : List TchD} (hG : GrpIn H gp bm n m r A cap ts) {x : IdD} (hx : FitId x) (hp : posL ts x ≠ []) :
    ∃ B c, (∀ W, H.In W → (Instr.lookup 150 (.map (some bm)) (.agg #[.int .i64 x.kind, .string x.text]) false).run Tryz.prog W = .ok (.slice B (posL ts x).length c) W) ∧ Rw H B 1 fI (posL ts x) := by
  obtain ⟨B, c, e, hR, _⟩ := hG.some_ x hx hp
  refine ⟨B, c, fun W hW => ?_, hR⟩
  have := (hG.map W hW).look idKeyed Tryz.underlying150 (z := .slice none 0 0) (by kernel_rfl) (keyId hx) false
  rw [e] at this
  exact this
theorem Below.mk9 {w W W' : World} {row : Option Nat} (h : Below w.heap.size w W) (g : W.grownBy W' row) (hr : ∀ b, row = some b → w.heap.size ≤ b) : Below w.heap.size w W' :=
  ⟨g.os.trans h.os, g.tape.trans h.tape, g.output.trans h.output, Nat.le_trans h.size g.size, fun k hk => (g.block k (Nat.lt_of_lt_of_le hk h.size) (fun e => by have := hr k e.symm; omega)).trans (h.block k hk)⟩
/-- The places that the first ids of a touch join. -/
def nbF (J : IdD → Bool) (ts : List TchD) (ids : List IdD) : List Int := ids.flatMap fun x => if J x = true then posL ts x else []
theorem nbF_succ {J : IdD → Bool} {ts : List TchD} {ids : List IdD} {j : Nat} (h : j < ids.length) : nbF J ts (ids.take (j + 1)) = nbF J ts (ids.take j) ++ if J ids[j] = true then posL ts ids[j] else [] := by
  unfold nbF
  rw [List.take_succ_eq_append_getElem h, List.flatMap_append]
  simp
theorem nbF_len {J : IdD → Bool} {ts : List TchD} {ids : List IdD} (hl : ts.length ≤ 100) : (nbF J ts ids).length ≤ ids.length * 100 := by
  unfold nbF
  refine flatMap_le _ _ fun x _ => ?_
  split
  · have := posN_le ts x ts.length
    unfold posL
    omega
  · simp
theorem mem_nbF {J : IdD → Bool} {ts : List TchD} {i : Nat} (hi : i < ts.length) {z : Int} : z ∈ nbF J ts ts[i].ids ↔ ∃ j : Nat, z = (j : Int) ∧ Share J ts i j := by
  unfold nbF
  rw [List.mem_flatMap]
  constructor
  · rintro ⟨x, hx, h⟩
    by_cases hJ : J x = true
    · rw [if_pos hJ] at h
      unfold posL at h
      obtain ⟨j, rfl, _, hj, hh⟩ := mem_posN.1 h
      exact ⟨j, rfl, hi, hj, x, hJ, hasId_iff.2 hx, hh⟩
    · rw [if_neg hJ] at h; cases h
  · rintro ⟨j, rfl, _, hj, x, hJ, h1, h2⟩
    exact ⟨x, hasId_iff.1 h1, by rw [if_pos hJ]; exact mem_posL.2 ⟨hj, h2⟩⟩
def φNb (gp bm : Nat) (v5 lv : Value) (x : IdD) (i : Nat) (v : Value) (_ : World) : Prop :=
  match i with
  | 0 => v = v5
  | 1 => v = .pointer (some ⟨gp, 0, none⟩)
  | 2 => v = .pointer (some ⟨gp, 0, none⟩)
  | 3 => v = .pointer (some ⟨gp, 5, none⟩)
  | 4 => v = .map (some bm)
  | 5 => v = .agg #[.int .i64 x.kind, .string x.text]
  | _ => v = lv
theorem φNb_mono {gp bm : Nat} {v5 lv : Value} {x : IdD} (i : Nat) (v : Value) (W W' : World) (_ : i < 7) (he : Below W.heap.size W W') (h : φNb gp bm v5 lv x i v W) : φNb gp bm v5 lv x i v W' := by
  match i, h with
  | 0, h => exact h
  | 1, h => exact h
  | 2, h => exact h
  | 3, h => exact h
  | 4, h => exact h
  | 5, h => exact h
  | i + 6, h => exact h
set_option maxHeartbeats 4000000 in
set_option maxRecDepth 100000 in
theorem neighbours_any {H : Frz} {gp bm nm : Nat} {m : Lit → Option Value} {r : RulD} {A : Option Addr} {cap : Nat} {ts : List TchD} (hG : GrpIn H gp bm nm m r A cap ts) (hw : SortI r.weaks) (hwl : r.weaks.length ≤ 1000000) (hkl : r.kinds.length ≤ 1000000) (hl : ts.length ≤ 100) (hfit : ∀ t ∈ ts, (∀ x ∈ t.ids, FitId x) ∧ t.ids.length ≤ 20) (i : Nat) (hi : i < ts.length) (w : World) (hH : H.In w) :
    Calls Tryz.prog 129 #[.pointer (some ⟨gp, 0, none⟩), .int .i64 i] w fun e w' => ∃ v zs, e = .returned v ∧ Orow w' w.heap.size 3 1 fI v zs ∧ Below w.heap.size w w' ∧ zs.length ≤ 2000 ∧ ∀ z, z ∈ zs ↔ ∃ j : Nat, z = (j : Int) ∧ Share (JD r ts) ts i j := by
  obtain ⟨i0, hi9, hz0, hz1, hz2⟩ := info_parts (show (Tryz.prog.info? 3).map (fun i => (i.zero, i.size, i.bytes)) = some (some (.int .i64 0), 1, 8) by kernel_rfl)
  have HI0 := Lib.hid hi9
  clear hi9
  have hgo := hH gp _ hG.obj
  have g4 := cell_h hgo 4 (v := .slice A ts.length cap) rfl
  obtain ⟨b, off, hA, hbl, hc⟩ := hG.tch.1.at_ hH hi (by omega)
  have c3 : w.cell? ⟨b, off + i * 5 + 3, none⟩ = some (.slice ts[i].ia ts[i].ids.length ts[i].ic) := hc 3 (by omega)
  have HIR := Lib.hid (hG.tch.2 _ (List.getElem_mem hi)).1
  have HFT := Lib.hid (hfit _ (List.getElem_mem hi)).1
  have hil := (hfit _ (List.getElem_mem hi)).2
  have HJA := Lib.hid (fun x hx W hW => joins_any hG hw hwl hkl x hx W hW)
  have HG := Lib.hid hG
  have HMEM := Lib.hid (fun z => mem_nbF (J := JD r ts) hi (z := z))
  have HHA : Hid (∀ x ∈ ts[i].ids, posL ts x ≠ []) := fun x hx e => by
    have : (i : Int) ∈ posL ts x := mem_posL.2 ⟨hi, hasId_iff.2 hx⟩
    rw [e] at this
    cases this
  have HH := Lib.hid hH
  have hi2 : (i : Int) < ts.length := by omega
  subst hA
  clear hG hw hfit hH hgo hc hbl
  generalize ts[i] = u at *
  go_enter Tryz.func129, Tryz.ntmps129
  go_wp2_with fail
  clear g4 c3
  go_loopw [5, 17] (fun v t wr => ∃ (j : Nat) (zs : List Int), j ≤ u.ids.length ∧ t = .int .i64 j ∧ Hid (Orow wr w.heap.size 3 1 fI v zs) ∧ Hid (Below w.heap.size w wr) ∧ Hid (zs = nbF (JD r ts) ts (u.ids.take j))) (fun _ t _ => u.ids.length - (intOf t).toNat)
  case atStart => exact ⟨0, [], by omega, rfl, Orow.nil _ _ _ _ _, Below.refl _ _, by show _ = _; simp [nbF]⟩
  case round =>
    obtain ⟨j, zs, hj, rfl, HO, HB, HZ⟩ := hrel
    obtain ⟨vA, vc, hv, -⟩ := HO.out.slice
    subst hv
    have hin := HH.out.below HB.out
    have hzl : zs.length ≤ 2000 := by
      rw [HZ.out]
      have h1 := nbF_len (J := JD r ts) (ts := ts) (ids := u.ids.take j) hl
      rw [List.length_take] at h1
      omega
    by_cases hlt : j < u.ids.length
    · obtain ⟨b2, off2, hA2, hbl2, hc2⟩ := HIR.out.at_ hin hlt (by omega)
      have c0 : wr.cell? ⟨b2, off2 + j * 2, none⟩ = some (.int .i64 u.ids[j].kind) := hc2 0 (by omega)
      have c1 : wr.cell? ⟨b2, off2 + j * 2 + 1, none⟩ = some (.string u.ids[j].text) := hc2 1 (by omega)
      have hfx := HFT.out _ (List.getElem_mem hlt)
      have hpx := HHA.out _ (List.getElem_mem hlt)
      have HSU := Lib.hid (nbF_succ (J := JD r ts) (ts := ts) hlt)
      obtain ⟨ia, hia⟩ : ∃ ia, u.ia = ia := ⟨_, rfl⟩
      rw [hia] at hA2 ⊢
      subst hA2
      clear hc2 hbl2
      generalize u.ids[j] = x at *
      have HXB := Lib.hid (heap_alloc_new wr (.cells #[.int .i64 x.kind, .string x.text] 55))
      have hn1 := new1 (w := wr) (.cells #[.int .i64 x.kind, .string x.text] 55)
      have HB1 := Lib.hid (HB.out.trans (hn1.mono HB.out.size))
      have HO1 := Lib.hid (HO.out.below hn1)
      clear HB HO hin hn1
      go_upto_region 5 with (fail)
      clear c0 c1 hia
      generalize wr.alloc (.cells #[.int .i64 x.kind, .string x.text] 55) = W1 at *
      generalize wr.heap.size = xb at *
      have hin1 := HH.out.below HB1.out
      have HJC := Lib.hid (HJA.out x hfx W1 hin1)
      have x0 := cell_h HXB.out 0 (v := .int .i64 x.kind) rfl
      have x1 := cell_h HXB.out 1 (v := .string x.text) rfl
      have HFX := Lib.hid hfx
      have HPX := Lib.hid hpx
      clear hin1 hfx hpx
      generalize hjv : joinsD r.kinds r.most r.weaks ts x = jv at HJC
      have HJV : Hid (JD r ts x = jv) := hjv
      clear hjv
      go_wp2_with fail
      refine HJC.out.mono ?_
      rintro e W2 ⟨rfl, hb2⟩
      have HXB2 := Lib.hid ((hb2.block xb (lt_of_heap HXB.out)).trans HXB.out)
      have HB2 := Lib.hid (HB1.out.trans (hb2.mono HB1.out.size))
      have HO2 := Lib.hid (HO1.out.below hb2)
      clear hb2 HJC x0 x1 HXB HB1 HO1
      cases jv with
      | false =>
        go_wp2_with fail
        go_roundw
        case rel => exact ⟨j + 1, zs, by omega, by go_num, HO2, HB2, by show _ = _; rw [HSU.out, if_neg (by rw [HJV.out]; simp), List.append_nil]; exact HZ.out⟩
        case measure => simp [intOf]; omega
      | true =>
        obtain ⟨lB, lc, hlk, hlR⟩ := HG.out.look2 HFX.out HPX.out
        have HLK := Lib.hid hlk
        have HLR := Lib.hid hlR
        clear hlk hlR
        go_upto_region 6 with (fail)
        refine wp_region_conc 7 37 (φNb gp bm (.slice vA zs.length vc) (.slice lB (posL ts x).length lc) x) (fun n W' => Below W2.heap.size W2 W') (fun a b => Below a.heap.size a b) (by kernel_rfl) (by kernel_rfl) (by rfl) ((Below.refl _ _).drew) φNb_mono ?_ ?_
        · intro n o hn ho a W3 kk hkk hJ hkn
          have hcs : n = 0 ∨ n = 1 ∨ n = 2 ∨ n = 3 ∨ n = 4 ∨ n = 5 ∨ n = 6 := by omega
          have hin3 : H.In W3 := (HH.out.below HB2.out).below hJ
          rcases hcs with rfl | rfl | rfl | rfl | rfl | rfl | rfl
          · obtain rfl := Option.some.inj ho
            exact ⟨hkn 5 (by decide), hJ, Below.refl _ _⟩
          · obtain rfl := Option.some.inj ho
            exact ⟨hkn 0 (by decide), hJ, Below.refl _ _⟩
          · obtain rfl := Option.some.inj ho
            have h1 := slotA_of (hkn 25 (by decide) : a.tmps.getD 25 undef = .pointer (some ⟨gp, 0, none⟩))
            clear hkn ho
            simp only [OpV, execOp]
            simp [go_sem, h1]
            exact ⟨rfl, hJ, Below.refl _ _⟩
          · obtain rfl := Option.some.inj ho
            have h1 := slotA_of (hkn 26 (by decide) : a.tmps.getD 26 undef = .pointer (some ⟨gp, 0, none⟩))
            clear hkn ho
            simp only [OpV, execOp]
            simp [go_sem, h1]
            exact ⟨rfl, hJ, Below.refl _ _⟩
          · obtain rfl := Option.some.inj ho
            have h1 := slotA_of (hkn 27 (by decide) : a.tmps.getD 27 undef = .pointer (some ⟨gp, 5, none⟩))
            have c5 := cell_h (hin3 gp _ HG.out.obj) 5 (v := .map (some bm)) rfl
            clear hkn ho
            simp only [OpV, execOp]
            simp [go_sem, h1, c5]
            exact ⟨rfl, hJ, Below.refl _ _⟩
          · obtain rfl := Option.some.inj ho
            have h1 := slotA_of (hkn 7 (by decide) : a.tmps.getD 7 undef = .pointer (some ⟨xb, 0, none⟩))
            have hx := (hJ.block xb (lt_of_heap HXB2.out)).trans HXB2.out
            have c0 := cell_h hx 0 (v := .int .i64 x.kind) rfl
            have c1 := cell_h hx 1 (v := .string x.text) rfl
            clear hkn ho hx
            simp only [OpV, execOp]
            simp [go_sem, h1, c0, c1]
            exact ⟨rfl, hJ, Below.refl _ _⟩
          · obtain rfl := Option.some.inj ho
            have h1 := slotA_of (hkn 28 (by decide) : a.tmps.getD 28 undef = .map (some bm))
            have h2 := slotA_of (hkn 29 (by decide) : a.tmps.getD 29 undef = .agg #[.int .i64 x.kind, .string x.text])
            have hlk := HLK.out W3 hin3
            clear hkn ho
            simp only [OpV, execOp]
            simp [go_sem, h1, h2, hlk]
            exact ⟨rfl, hJ, Below.refl _ _⟩
        · intro xv Wv hJv hφ
          have e0 : xv 0 = .slice vA zs.length vc := hφ 0 (by omega)
          have e6 : xv 6 = .slice lB (posL ts x).length lc := hφ 6 (by omega)
          have HO3 := Lib.hid (HO2.out.below hJv)
          have HB3 := Lib.hid (HB2.out.trans (hJv.mono HB2.out.size))
          have HIN3 := Lib.hid (HH.out.below HB3.out)
          have hpl : (posL ts x).length ≤ 100 := by have := posN_le ts x ts.length; unfold posL; omega
          have hB9 := HB3.out.size
          simp only [List.drop_succ_cons, List.drop_zero, List.take_succ_cons, List.take_zero, putAll, Nat.reduceAdd, e0, e6]
          clear e0 e6 hφ hJv
          generalize xv 1 = y1
          generalize xv 2 = y2
          generalize xv 3 = y3
          generalize xv 4 = y4
          generalize xv 5 = y5
          go_wp2_with (at_builtin; refine wpList_rows rfl _ _ 22 rfl w.heap.size 3 i0 (.int .i64 0) 1 8 Tryz.underlying22 HI0.out hz0 hz1 hz2 rfl (by decide) fI (.slice vA zs.length vc) zs (by go_simp) HO3.out H HIN3.out lB lc (posL ts x) HLR.out (by go_simp) (fun d _ m => rfl) (by omega) (by omega) hB9 ?_; intro v1 w7 o1 g1 at1; have HO4 := Lib.hid o1; have HB4 : Hid (Below w.heap.size w w7) := (Below.mk9 HB3.out g1 (fun g e => (HO3.out.lt e).1)); clear o1 g1 at1)
          go_roundw
          case rel => exact ⟨j + 1, _, by omega, by go_num, HO4, HB4, by show _ = _; rw [HSU.out, if_pos HJV.out, HZ.out]⟩
          case measure => simp [intOf]; omega
    · have hje : j = u.ids.length := by omega
      subst hje
      rw [List.take_length] at HZ
      have HSO := Lib.hid (sort_I w.heap.size (.slice vA zs.length vc) zs wr HO.out (by omega))
      go_wp2_with fail
      refine HSO.out.mono ?_
      rintro e W2 ⟨rfl, o2, g2⟩
      have HB2 : Hid (Below w.heap.size w W2) := Below.mk9 HB.out g2 (fun g e => (HO.out.lt e).1)
      have HO2 := Lib.hid o2
      have hsl : (zs.mergeSort fun x y => decide (x ≤ y)).length ≤ 2000 := by rw [(List.mergeSort_perm _ _).length_eq]; exact hzl
      have HCO := Lib.hid (compact_I w.heap.size (.slice vA zs.length vc) (zs.mergeSort fun x y => decide (x ≤ y)) W2 o2 (by omega))
      clear HSO o2 g2 HB HO hin
      go_wp2_with fail
      refine HCO.out.mono ?_
      rintro e W3 ⟨⟨v3, rfl, o3, hown⟩, g3⟩
      have HB3 : Hid (Below w.heap.size w W3) := Below.mk9 HB2.out g3 (fun g e => (HO2.out.lt e).1)
      obtain ⟨vA3, vc3, hv3, -⟩ := o3.slice
      have HF : Hid (∃ v zs, Ending.returned v3 = .returned v ∧ Orow W3 w.heap.size 3 1 fI v zs ∧ Below w.heap.size w W3 ∧ zs.length ≤ 2000 ∧ ∀ z, z ∈ zs ↔ ∃ j : Nat, z = (j : Int) ∧ Share (JD r ts) ts i j) :=
        ⟨_, _, rfl, o3, HB3.out, Nat.le_trans (Lib.compact_length_le _) hsl, fun z => by rw [compact_mem, (List.mergeSort_perm _ _).mem_iff, HZ.out, HMEM.out z]⟩
      subst hv3
      clear HCO HB3 HB2 HO2 o3 hown g3
      go_wp2_with fail
      exact bodyPost_ret (by kernel_rfl) rfl HF.out
end Go.Proofs.YtbidhpgjmcedaaaGreatDoor

/- The functions that the law of chains hands on. -/
namespace Go.Proofs.YtbidhpgjmcedaaaGreatDoor
set_option linter.unusedVariables false
open Go.RowKit
set_option maxHeartbeats 2000000 in
set_option maxRecDepth 100000 in
theorem tieIn_any (H : Frz) (t : TchD) (nb : Nat) (z : Int) (w : World) (hH : H.In w) (hz : H.cell? ⟨nb, 0, none⟩ = some (.int .i64 z)) : Calls Tryz.prog 56 #[.agg #[.int .i64 t.no, .int .i64 t.at_, .string t.source, .slice t.ia t.ids.length t.ic, .slice t.fa t.fields.length t.fc], .pointer (some ⟨nb, 0, none⟩)] w fun e w' => e = .returned (.bool (decide (t.no = z))) ∧ Below w.heap.size w w' := by
  have z0 : (w.alloc (.cells #[.int .i64 t.no, .int .i64 t.at_, .string t.source, .slice t.ia t.ids.length t.ic, .slice t.fa t.fields.length t.fc] 53)).cell? ⟨w.heap.size, 0, none⟩ = some (.int .i64 t.no) := newc 0 rfl
  have z1 : (w.alloc (.cells #[.int .i64 t.no, .int .i64 t.at_, .string t.source, .slice t.ia t.ids.length t.ic, .slice t.fa t.fields.length t.fc] 53)).cell? ⟨w.heap.size, 1, none⟩ = some (.int .i64 t.at_) := newc 1 rfl
  have z2 : (w.alloc (.cells #[.int .i64 t.no, .int .i64 t.at_, .string t.source, .slice t.ia t.ids.length t.ic, .slice t.fa t.fields.length t.fc] 53)).cell? ⟨w.heap.size, 2, none⟩ = some (.string t.source) := newc 2 rfl
  have z3 : (w.alloc (.cells #[.int .i64 t.no, .int .i64 t.at_, .string t.source, .slice t.ia t.ids.length t.ic, .slice t.fa t.fields.length t.fc] 53)).cell? ⟨w.heap.size, 3, none⟩ = some (.slice t.ia t.ids.length t.ic) := newc 3 rfl
  have z4 : (w.alloc (.cells #[.int .i64 t.no, .int .i64 t.at_, .string t.source, .slice t.ia t.ids.length t.ic, .slice t.fa t.fields.length t.fc] 53)).cell? ⟨w.heap.size, 4, none⟩ = some (.slice t.fa t.fields.length t.fc) := newc 4 rfl
  have HBN := Lib.hid (new1 (w := w) (.cells #[.int .i64 t.no, .int .i64 t.at_, .string t.source, .slice t.ia t.ids.length t.ic, .slice t.fa t.fields.length t.fc] 53))
  have x0 := (hH.below HBN.out).cell hz
  clear hH hz
  go_enter Tryz.func56, Tryz.ntmps56
  go_upto_region 1 with (fail)
  generalize w.alloc (.cells #[.int .i64 t.no, .int .i64 t.at_, .string t.source, .slice t.ia t.ids.length t.ic, .slice t.fa t.fields.length t.fc] 53) = W1 at *
  go_wp2_with fail
  clear z0 z1 z2 z3 z4 x0
  go_ret
  exact ⟨ret_bool' (by by_cases h : t.no = z <;> simp [h]), HBN.out⟩
set_option maxHeartbeats 2000000 in
set_option maxRecDepth 100000 in
theorem tie_any (H : Frz) (A : Option Addr) (cap : Nat) (ts : List TchD) (tb : Nat) (w : World) (hH : H.In w) (hT : H.cell? ⟨tb, 0, none⟩ = some (.slice A ts.length cap)) (hR : Rw H A 5 fTch ts) (hl : ts.length ≤ 1000000) (hno : ts.Pairwise fun a b => a.no < b.no) (i : Nat) (hi : i < ts.length) :
    Calls Tryz.prog 54 #[.int .i64 ts[i].no, .pointer (some ⟨tb, 0, none⟩)] w fun e w' => e = .returned (.agg #[.int .i64 ts[i].no, .int .i64 ts[i].at_, .string ts[i].source, .slice ts[i].ia ts[i].ids.length ts[i].ic, .slice ts[i].fa ts[i].fields.length ts[i].fc]) ∧ Below w.heap.size w w' := by
  obtain ⟨u, hu⟩ : ∃ u, u = ts[i] := ⟨_, rfl⟩
  rw [← hu]
  have HU := Lib.hid hu
  have hb1 := new1 (w := w) (.cells #[.int .i64 u.no] 3)
  have hb2 := new1 (w := w.alloc (.cells #[.int .i64 u.no] 3)) (.cells #[.int .i64 0, .int .i64 0, .string ⟨#[]⟩, .slice none 0 0, .slice none 0 0] 53)
  have HZ : Hid (((w.alloc (.cells #[.int .i64 u.no] 3)).alloc (.cells #[.int .i64 0, .int .i64 0, .string ⟨#[]⟩, .slice none 0 0, .slice none 0 0] 53)).heap[w.heap.size + 1]? = some (.cells #[.int .i64 0, .int .i64 0, .string ⟨#[]⟩, .slice none 0 0, .slice none 0 0] 53 (0, 0))) := heap_at (by simp)
  have hn0 : (w.alloc (.cells #[.int .i64 u.no] 3)).cell? ⟨w.heap.size, 0, none⟩ = some (.int .i64 u.no) := newc 0 rfl
  have hn1 := lift_cell hn0 _ hb2
  have HBN := Lib.hid (hb1.trans (hb2.mono hb1.size))
  have HIN := Lib.hid (hH.below HBN.out)
  have HNB := Lib.hid (wholeH_cell hn1)
  have xT := HIN.out.cell hT
  have HT := Lib.hid hT
  have HR := Lib.hid hR
  have HIX := Lib.hid (idx_no hno hi)
  rw [← hu] at HIX
  clear hu
  have hi2 : (i : Int) < ts.length := by omega
  have hi3 : (0 : Int) ≤ (i : Int) := by omega
  clear hb1 hb2 hn0 hn1 hno hT
  go_enter Tryz.func54, Tryz.ntmps54
  go_upto_region 1 with (fail)
  generalize ((w.alloc (.cells #[.int .i64 u.no] 3)).alloc (.cells #[.int .i64 0, .int .i64 0, .string ⟨#[]⟩, .slice none 0 0, .slice none 0 0] 53)) = W1 at *
  have HIF := Lib.hid (indexFunc_Tch (wholeH W1) fTch 56 [.pointer (some ⟨w.heap.size, 0, none⟩)] (fun d => decide (d.no = u.no)) ts (fun W d hd hW => tieIn_any (wholeH W1) d w.heap.size u.no W hW HNB.out) (fun _ _ => by kernel_rfl) A cap W1 (wholeH_in W1) (HR.out.le fun b o h => HIN.out b o h) (by omega))
  rw [HIX.out] at HIF
  go_wp2_with fail
  refine HIF.out.mono ?_
  rintro e W2 ⟨rfl, hb2⟩
  have HB2 := Lib.hid (HBN.out.trans (hb2.mono HBN.out.size))
  have HZ2 := Lib.hid ((hb2.block (w.heap.size + 1) (lt_of_heap HZ.out)).trans HZ.out)
  have hin2 := HIN.out.below hb2
  have xT2 := hin2.cell HT.out
  obtain ⟨b, off, hA, hbl, hc⟩ := HR.out.at_ hin2 hi (by omega)
  have c0 : W2.cell? ⟨b, off + i * 5, none⟩ = some (.int .i64 u.no) := by rw [HU.out]; exact hc 0 (by omega)
  have c1 : W2.cell? ⟨b, off + i * 5 + 1, none⟩ = some (.int .i64 u.at_) := by rw [HU.out]; exact hc 1 (by omega)
  have c2 : W2.cell? ⟨b, off + i * 5 + 2, none⟩ = some (.string u.source) := by rw [HU.out]; exact hc 2 (by omega)
  have c3 : W2.cell? ⟨b, off + i * 5 + 3, none⟩ = some (.slice u.ia u.ids.length u.ic) := by rw [HU.out]; exact hc 3 (by omega)
  have c4 : W2.cell? ⟨b, off + i * 5 + 4, none⟩ = some (.slice u.fa u.fields.length u.fc) := by rw [HU.out]; exact hc 4 (by omega)
  have hset := tm_set5 HZ2.out (.int .i64 u.no) (.int .i64 u.at_) (.string u.source) (.slice u.ia u.ids.length u.ic) (.slice u.fa u.fields.length u.fc)
  have HS1 := Lib.hid hset.1
  have HS2 := Lib.hid hset.2
  have HBN9 := Lib.hid (Below.mk9 HB2.out HS1.out (fun g e => by injection e with e; omega))
  have q0 := cell_h HZ2.out 0 (v := .int .i64 0) rfl
  have q1 := cell_h HZ2.out 1 (v := .int .i64 0) rfl
  have q2 := cell_h HZ2.out 2 (v := .string ⟨#[]⟩) rfl
  have q3 := cell_h HZ2.out 3 (v := .slice none 0 0) rfl
  have q4 := cell_h HZ2.out 4 (v := .slice none 0 0) rfl
  have f0 := froz_h HZ2.out 0
  have f1 := froz_h HZ2.out 1
  have f2 := froz_h HZ2.out 2
  have f3 := froz_h HZ2.out 3
  have f4 := froz_h HZ2.out 4
  subst hA
  clear hset hc hbl hin2 hb2 xT HIX HR HIF HNB HT hR hH HIN
  go_wp2_with fail
  refine bodyPost_ret (results_cell_row rfl _ _ (w.heap.size + 1) 53 _ (0, 0) _ rfl HS2.out Tryz.underlying53 rfl (by kernel_rfl)) rfl ?_
  exact ⟨rfl, HBN9.out⟩
end Go.Proofs.YtbidhpgjmcedaaaGreatDoor

/- A queue of ints: a slice that may begin amid its block. -/
namespace Go.Proofs.YtbidhpgjmcedaaaGreatDoor
set_option linter.unusedVariables false
open Go.RowKit
/-- The queue lies in a block of ints that is the call's own. -/
structure QueS (B b off cap : Nat) (xs : List Int) (w : World) : Prop where
  ge : B ≤ b
  le : xs.length ≤ cap
  blk : ∃ cur : Array Value, w.heap[b]? = some (.cells cur 3 (0, 0)) ∧ off + cap ≤ cur.size ∧ ∀ j x, xs[j]? = some x → cur[off + j]? = some (.int .i64 x)
section
variable {B b off cap : Nat} {xs : List Int} {w w' : World}
theorem QueS.lt (h : QueS B b off cap xs w) : b < w.heap.size := by
  obtain ⟨cur, h1, _⟩ := h.blk
  exact lt_of_heap h1
theorem QueS.same (h : QueS B b off cap xs w) (e : w'.heap[b]? = w.heap[b]?) : QueS B b off cap xs w' := by
  obtain ⟨cur, h1, h2, h3⟩ := h.blk
  exact ⟨h.ge, h.le, cur, e.trans h1, h2, h3⟩
theorem QueS.below (h : QueS B b off cap xs w) (hb : Below w.heap.size w w') : QueS B b off cap xs w' := h.same (hb.block b h.lt)
theorem QueS.other (h : QueS B b off cap xs w) {a : Addr} (hne : a.block ≠ b) (u : Value) : QueS B b off cap xs (w.setCell a u) :=
  h.same (Below.heap_setCell w a u b (fun e => hne e.symm))
theorem QueS.cell (h : QueS B b off cap xs w) (j : Nat) (x : Int) (hx : xs[j]? = some x) : w.cell? ⟨b, off + j, none⟩ = some (.int .i64 x) := by
  obtain ⟨cur, h1, h2, h3⟩ := h.blk
  exact cell_h h1 (off + j) (h3 j x hx)
theorem QueS.spare (h : QueS B b off cap xs w) (hr : xs.length + 1 ≤ cap) : (w.cell? ⟨b, off + xs.length, none⟩).isSome = true ∧ w.frozen? ⟨b, off + xs.length, none⟩ = false := by
  obtain ⟨cur, h1, h2, h3⟩ := h.blk
  refine ⟨?_, froz_h h1 _⟩
  have hlt : off + xs.length < cur.size := by omega
  rw [cell_h h1 (off + xs.length) (Array.getElem?_eq_getElem hlt)]
  rfl
theorem QueS.tail {x : Int} (h : QueS B b off cap (x :: xs) w) : QueS B b (off + 1) (cap - 1) xs w := by
  obtain ⟨cur, h1, h2, h3⟩ := h.blk
  have := h.le
  simp only [List.length_cons] at this
  refine ⟨h.ge, by omega, cur, h1, by omega, fun j y hy => ?_⟩
  have := h3 (j + 1) y (by simpa using hy)
  rw [show off + 1 + j = off + (j + 1) by omega]
  exact this
theorem QueS.tail1 {x : Int} (h : QueS B b off 1 (x :: xs) w) : xs = [] ∧ QueS B b off 0 xs w := by
  obtain ⟨cur, h1, h2, h3⟩ := h.blk
  have := h.le
  simp only [List.length_cons] at this
  have : xs = [] := List.eq_nil_of_length_eq_zero (by omega)
  subst this
  exact ⟨rfl, h.ge, by simp, cur, h1, by omega, fun j y hy => by simp at hy⟩
theorem QueS.room (h : QueS B b off cap xs w) (hr : xs.length + 1 ≤ cap) (x : Int) : QueS B b off cap (xs ++ [x]) (w.setCell ⟨b, off + xs.length, none⟩ (.int .i64 x)) := by
  obtain ⟨cur, h1, h2, h3⟩ := h.blk
  have hlt : off + xs.length < cur.size := by omega
  refine ⟨h.ge, by simp; omega, cur.setIfInBounds (off + xs.length) (.int .i64 x), heap_setCell_same w b (off + xs.length) cur _ _ h1, by simpa using h2, fun j y hy => ?_⟩
  by_cases e : j = xs.length
  · subst e
    simp at hy
    subst hy
    simp [hlt]
  · have hj : j < (xs ++ [x]).length := (List.getElem?_eq_some_iff.1 hy).1
    simp only [List.length_append, List.length_cons, List.length_nil] at hj
    rw [List.getElem?_append_left (by omega)] at hy
    rw [Array.getElem?_setIfInBounds_ne (by omega)]
    exact h3 j y hy
theorem QueS.own {v : Value} {n : Nat} (h : w.ownsRow B 3 1 v n (xs.map (Value.int .i64))) (hn : xs ≠ []) : ∃ b cap, v = .slice (some ⟨b, 0, none⟩) xs.length cap ∧ QueS B b 0 cap xs w := by
  have hl := h.1
  rcases h.2 with ⟨h1, h2⟩ | ⟨g, cap, cur, hv, hB, hh, hle, hm, hs, ht⟩
  · subst h2
    simp at hl
    exact absurd hl hn
  · have hln : xs.length = n := by simpa using hl
    subst hln
    refine ⟨g, cap, hv, hB, hle, cur, hh, by omega, fun j x hx => ?_⟩
    have h4 : (xs.map (Value.int .i64))[j]? = some (.int .i64 x) := by rw [List.getElem?_map, hx]; rfl
    rw [← ht] at h4
    have hj : j < xs.length := (List.getElem?_eq_some_iff.1 hx).1
    rw [List.getElem?_take_of_lt (by simpa using hj)] at h4
    rw [Nat.zero_add]
    simpa using h4
end
end Go.Proofs.YtbidhpgjmcedaaaGreatDoor
