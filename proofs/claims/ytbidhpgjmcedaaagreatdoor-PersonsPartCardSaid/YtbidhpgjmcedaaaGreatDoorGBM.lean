/- Texts of this claim, put together: PartsO. -/
import Derived.Test.YtbidhpgjmcedaaaGreatDoorGAN
import Derived.Test.YtbidhpgjmcedaaaGreatDoorGBL
import Derived.StillTailTactics
import Derived.Deep.Cut
/- The parts of a group without an id. -/
namespace Go.Proofs.YtbidhpgjmcedaaaGreatDoor
set_option linter.unusedVariables false
open Go.RowKit
set_option maxHeartbeats 8000000 in
set_option maxRecDepth 100000 in
theorem partsO_any {H : Frz} {gp bm nm : Nat} {m : Lit → Option Value} {r : RulD} {A : Option Addr} {cap : Nat} {ts : List TchD} (hG : GrpIn H gp bm nm m r A cap ts) (hw : SortI r.weaks) (hwl : r.weaks.length ≤ 1000000) (hkl : r.kinds.length ≤ 1000000) (hl : ts.length ≤ 100000) (hfit : ∀ t ∈ ts, ∀ x ∈ t.ids, FitId x) (out : IdD) (ob : Nat) (ho0 : H.cell? ⟨ob, 0, none⟩ = some (.int .i64 out.kind)) (ho1 : H.cell? ⟨ob, 1, none⟩ = some (.string out.text)) (w : World) (hH : H.In w) :
    Calls Tryz.prog 106 #[.pointer (some ⟨gp, 0, none⟩), .pointer (some ⟨ob, 0, none⟩)] w (PartsQ w (minusJ (JD r ts) out) ts) := by
  obtain ⟨i0, hi0, hz0, hz1, hz2⟩ := info_parts (show (Tryz.prog.info? 3).map (fun i => (i.zero, i.size, i.bytes)) = some (some (.int .i64 0), 1, 8) by kernel_rfl)
  obtain ⟨n, hn⟩ : ∃ n, n = ts.length := ⟨_, rfl⟩
  have hk := hH gp _ hG.obj
  have p4 : w.cell? ⟨gp, 4, none⟩ = some (.slice A n cap) := by rw [hn]; exact cell_h hk 4 rfl
  have HJA := Lib.hid (fun x hx W hW => joins_any hG hw hwl hkl x hx W hW)
  have HIN := Lib.hid (fun W (hW : Below w.heap.size w W) => hH.below hW)
  have HG := Lib.hid hG
  have O0 := lift_cell (hH.cell ho0)
  have O1 := lift_cell (hH.cell ho1)
  clear ho0 ho1
  obtain ⟨JX, hJX⟩ : ∃ JX, JX = minusJ (JD r ts) out := ⟨_, rfl⟩
  rw [← hJX]
  have HJX := Lib.hid hJX
  clear hJX
  have HO0 := Lib.hid O0
  have HO1 := Lib.hid O1
  clear O0 O1
  have HMK : Hid (∀ w2 : World, w2.ownsRow w.heap.size 3 1 (.slice (some ⟨w.heap.size, 0, none⟩) n n) n (madeCells (Value.int .i64 0).cells (n * 1)).toList → w.grownBy w2 none → TabS H w w.heap.size n (fun k => if k < 0 then (k : Int) else 0) w2) := by
    intro w2 h1 h2
    have hb2 : Below w.heap.size w w2 := ⟨h2.os, h2.tape, h2.output, h2.size, fun k hk => h2.block k hk (by simp)⟩
    exact ⟨hH.below hb2, hb2, by simpa using made_ints h1, Nat.le_refl _, hH.none_ (Nat.le_refl _)⟩
  have HGB : Hid (bm < w.heap.size) := by
    obtain ⟨o, ho⟩ := HG.out.blk
    exact lt_of_heap (hH bm o ho)
  have hnl : n ≤ 100000 := by omega
  have HFIT := Lib.hid hfit
  clear hfit
  have HN := Lib.hid hn
  clear hH hk hG hw hn hl
  go_enter Tryz.func106, Tryz.ntmps106
  go_upto_region 2 with (at_make; refine wpList_make_full _ rfl _ _ 22 rfl w.heap.size 3 i0 (.int .i64 0) 1 Tryz.underlying22 hi0 hz0 hz1 _ _ _ _ n rfl rfl rfl rfl (by rw [hz2]; omega) (by simp only [maxLen]; omega) (Nat.le_refl _) ?_; intro w2 hown2 hgrow2; have J0 := Lib.hid (HMK.out _ hown2 hgrow2); clear hown2 hgrow2 HMK)
  have hgs : w.heap.size < w2.heap.size := lt_of_heap J0.out.blk
  have PT0 : Hid ((w2.alloc (.cells #[.slice (some ⟨w.heap.size, 0, none⟩) n n] 22)).heap[w2.heap.size]? = some (.cells #[.slice (some ⟨w.heap.size, 0, none⟩) n n] 22 (0, 0))) := heap_alloc_new _ _
  have J1 := Lib.hid (J0.out.call (new1 (.cells #[.slice (some ⟨w.heap.size, 0, none⟩) n n] 22)))
  clear J0 p4
  obtain ⟨g, hg⟩ : ∃ g, g = w.heap.size := ⟨_, rfl⟩
  rw [← hg] at PT0 J1 ⊢
  generalize hpr : w2.heap.size = pr at *
  generalize w2.alloc (.cells #[.slice (some ⟨g, 0, none⟩) n n] 22) = W2 at *
  have HNUM : Hid (g = w.heap.size ∧ g < pr) := ⟨hg, by omega⟩
  clear hg hpr hgs
  have q0 : W2.cell? ⟨pr, 0, none⟩ = some (.slice (some ⟨g, 0, none⟩) n n) := cell_h PT0.out 0 rfl
  go_wp2_with fail
  clear q0
  go_loopw [23] (fun t wr => ∃ k : Nat, k ≤ n ∧ t = .int .i64 k ∧ Hid (TabS H w g n (fun q => if q < k then (q : Int) else 0) wr) ∧ Hid (wr.heap[pr]? = some (.cells #[.slice (some ⟨g, 0, none⟩) n n] 22 (0, 0)))) (fun t _ => n - (intOf t).toNat)
  case atStart => exact ⟨0, by omega, rfl, J1, PT0⟩
  case round =>
    obtain ⟨k, hk, rfl, J, PT⟩ := hrel
    clear J1 PT0
    by_cases hlt : k < n
    · have c := J.out.cell k hlt
      have f := J.out.froz k
      have q0 : wr.cell? ⟨pr, 0, none⟩ = some (.slice (some ⟨g, 0, none⟩) n n) := cell_h PT.out 0 rfl
      have J2 : Hid (TabS H w g n (fun q => if q < k + 1 then (q : Int) else 0) (wr.setCell ⟨g, k, none⟩ (.int .i64 (k : Int)))) := by
        refine (J.out.set k hlt (k : Int)).congr fun q hq => ?_
        by_cases e : q = k
        · subst e; simp
        · rw [if_neg e]
          by_cases e2 : q < k
          · rw [if_pos e2, if_pos (by omega)]
          · rw [if_neg e2, if_neg (by omega)]
      have PT2 : Hid ((wr.setCell ⟨g, k, none⟩ (.int .i64 (k : Int))).heap[pr]? = some (.cells #[.slice (some ⟨g, 0, none⟩) n n] 22 (0, 0))) := (Below.heap_setCell wr ⟨g, k, none⟩ _ pr (by have := HNUM.out; show pr ≠ g; omega)).trans PT.out
      simp only [Nat.lt_irrefl, if_false] at c
      clear J PT
      go_wp2_with fail
      go_roundw
      case rel => exact ⟨k + 1, by omega, by go_num, J2, PT2⟩
      case measure => simp [intOf]; omega
    · have hke : k = n := by omega
      subst hke
      have RT0 : Hid (RtS pr g k (List.range k) wr) := by
        refine ⟨PT.out, ?_, by have := HNUM.out; omega, by simp⟩
        have := J.out.blk
        rw [tab_congr (G := fun q => (((List.range k).getD q q : Nat) : Int)) (fun q hq => by rw [if_pos hq, getD_range])] at this
        exact this
      have HB := Lib.hid J.out.bel
      clear J PT
      obtain ⟨w3, rfl⟩ : ∃ w3 : World, w3 = wr := ⟨_, rfl⟩
      have hk := (HIN.out _ HB.out) gp _ HG.out.obj
      have p5 : w3.cell? ⟨gp, 5, none⟩ = some (.map (some bm)) := cell_h hk 5 rfl
      have HMP := Lib.hid (HG.out.map w3 (HIN.out _ HB.out))
      clear hk
      have HKN : Hid (k = ts.length) := HN.out
      have ML0 : Hid (∀ (w4 : World) (left0 : Lit → Bool) (cnt0 : Nat), (∀ l, WideAt.IsKeyLit l → left0 l = (m l).isSome) → Rg Tryz.prog 55 w4 bm w3.heap.size nm m left0 cnt0 → w3.grownBy w4 none → MapL w pr g k bm w3.heap.size nm m (DoneE JX ts (Gone ts left0)) left0 cnt0 (List.range k) w4) := by
        intro w4 left0 cnt0 h1 h2 h3
        have hb4 : Below w3.heap.size w3 w4 := ⟨h3.os, h3.tape, h3.output, h3.size, fun q hq => h3.block q hq (by simp)⟩
        refine ⟨h2, RT0.out.below hb4, (Uf.start k).dn, (Uf.start k).same (fun i j e => e.elim) (fun i j e => ?_), HB.out.trans (hb4.mono HB.out.size), fun l hl e => by rw [← h1 l hl]; exact e⟩
        obtain ⟨x, ⟨x1, x2, x3⟩, _⟩ := e
        rw [h1 _ (klKey x1)] at x3
        obtain ⟨B, c, e, _⟩ := HG.out.some_ x x1 x2
        rw [e] at x3
        cases x3
      have HRB : Hid (bm ≠ g ∧ w3.heap.size ≠ g ∧ w.heap.size ≤ g ∧ w.heap.size ≤ w3.heap.size ∧ w3.heap.size ≠ pr) := by
        have h1 := HNUM.out
        have h2 := HGB.out
        have h3 := lt_of_heap RT0.out.blk
        have h4 := HB.out.size
        have h5 := lt_of_heap RT0.out.ptr
        show _ ∧ _
        omega
      clear RT0 HB
      go_wp2_with (at_range; refine wpList_range_mp _ rfl _ _ rfl _ _ idKeyed Tryz.underlying150 bm nm m rfl HMP.out ?_; intro w4 left0 cnt0 hlf hrg hgr hsz4; have M0 := Lib.hid (ML0.out w4 left0 cnt0 hlf hrg hgr); clear hlf hrg hgr hsz4 ML0 HMP)
      go_frame
      clear p5
      generalize w3.heap.size = rb at *
      go_loopw [37] (fun _ wr => ∃ left cnt rr, Hid (MapL w pr g k bm rb nm m (DoneE JX ts (Gone ts left)) left cnt rr wr)) (fun _ wr => wr.rangeLeft bm rb)
      case atStart => exact ⟨_, _, _, M0⟩
      case round =>
        obtain ⟨left, cnt, rr, M⟩ := hrel
        clear M0
        go_wp2_with (at_next; refine wpList_next_mp (α := {x : IdD // FitId x}) _ rfl _ rfl _ idKeyed (fun x => .agg #[.int .i64 x.1.kind, .string x.1.text]) bm rb nm m left cnt rfl M.out.rg (fun l h1 h2 => ?_) ?_ ?_)
        · obtain ⟨x, hx, e, _⟩ := HG.out.keys l (M.out.lft l h2 h1)
          exact ⟨⟨x, hx⟩, by rw [e]; exact keyId hx⟩
        · intro hc0 hl0
          have FP0 : Hid (FinP w pr g k rr 0 wr) := ⟨rr, M.out.rt, M.out.dn, fun _ => rfl, fun q hq => absurd hq (Nat.not_lt_zero q), M.out.bel, HRB.out.2.2.1⟩
          have HUF : Hid (Uf (Share JX ts) rr) := uf_all (P := Gone ts left) (fun x i h hx => ⟨HFIT.out _ (List.getElem_mem h) x hx, fun c => (by
            have h3 : (i : Int) ∈ posL ts x := mem_posL.2 ⟨h, hasId_iff.2 hx⟩
            rw [c] at h3
            cases h3), hl0 _⟩) M.out.uf
          have q0 := FP0.out.ptr
          clear M
          obtain ⟨w4, rfl⟩ : ∃ w4 : World, w4 = wr := ⟨_, rfl⟩
          go_wp2_with fail
          clear q0
          go_loopw [83] (fun t wr => ∃ i : Nat, i ≤ k ∧ t = .int .i64 i ∧ Hid (FinP w pr g k rr i wr)) (fun t _ => k - (intOf t).toNat)
          case atStart => exact ⟨0, by omega, rfl, FP0⟩
          case round =>
            obtain ⟨i, hi, rfl, F⟩ := hrel
            clear FP0
            by_cases hli : i < k
            · have HFD := Lib.hid (fun W (hW : FinP w pr g k rr i W) => hW.find hli (by omega))
              have HPT := fun W (hW : FinP w pr g k rr i W) => hW.ptr
              have hli2 : (i : Int) < k := by omega
              go_wp2_with fail
              (refine wp_region_det 6 94 (fun W => FinP w pr g k rr i W) (by kernel_rfl) (by kernel_rfl) (by rfl) F.out.drew ?_; simp only [List.take_succ_cons, List.take_zero, List.drop_succ_cons, List.drop_zero])
              iterate 4 (refine detSeq_op rfl ?_ (fun W hW => ?_) ?_; rotate_left; (focus simp only [OpV]; go_simp; first | exact rfl | exact ⟨rfl, hW⟩))
              (refine detSeq_op rfl ?_ (fun W hW => ?_) ?_; rotate_left; focus (simp only [OpV]; go_simp; refine (HFD.out W hW).mono ?_; rintro e w' ⟨rfl, hq⟩; refine ⟨_, rfl, ?_, hq⟩; exact rfl))
              iterate 1 (refine detSeq_op rfl ?_ (fun W hW => ?_) ?_; rotate_left; (focus simp only [OpV]; go_simp; first | exact rfl | exact ⟨rfl, hW⟩))
              refine detSeq_nil (fun W3 hW3 => ?_)
              obtain ⟨F2, ⟨ox, hox⟩, hfr⟩ := hW3.set hli
              have FF := Lib.hid F2
              clear F2 hW3 HPT HFD F
              generalize repN rr i = ri at *
              go_wp2_with fail
              go_roundw
              case rel => exact ⟨i + 1, by omega, by go_num, FF⟩
              case measure => simp [intOf]; omega
            · have hie : i = k := by omega
              subst hie
              have q0 := F.out.ptr
              have HF : Hid (PartsQ w JX ts (.returned (.slice (some ⟨g, 0, none⟩) i i)) wr) := by
                obtain ⟨r', a, b, c, d, e, f⟩ := F.out
                refine ⟨rr, g, by rw [HKN.out], HUF.out, ?_, e, f⟩
                have := a.blk
                rw [← HKN.out]
                rw [tab_congr (G := fun q => ((repN rr q : Nat) : Int)) (fun q hq => by rw [d q hq])] at this
                exact this
              clear F
              go_wp2_with fail
              go_ret
              exact HF.out
        · intro x hx c kl w5 cnt5 hkl hlx hmc hrg5 hlt5 hg5 hs5 hen
          obtain rfl : klId x = kl := Option.some.inj ((keyId hx).symm.trans hkl)
          have hp : posL ts x ≠ [] := fun e => by rw [HG.out.none_ x hx e] at hmc; cases hmc
          obtain ⟨PB, pc, he, hR, hpc⟩ := HG.out.some_ x hx hp
          obtain rfl : .slice PB (posL ts x).length pc = c := Option.some.inj (he.symm.trans hmc)
          have HX := Lib.hid hx
          have HP := Lib.hid hp
          have HR := Lib.hid hR
          have HCN : Hid (cnt5 < cnt ∧ wr.rangeLeft bm rb = cnt) := ⟨hlt5, M.out.rg.left_eq⟩
          have M5 : Hid (MapL w pr g k bm rb nm m (DoneE JX ts (Gone ts left)) (fun z => left z && !z.sameKey (klId x)) cnt5 rr w5) := by
            have h1 := HRB.out
            have hM := M.out
            refine ⟨hrg5, hM.rt.kept hg5 (fun c => h1.2.2.2.2 (by injection c with c; exact c.symm)) (fun c => h1.2.1 (by injection c with c; exact c.symm)), hM.dn, hM.uf, ?_, fun l h2 h3 => hM.lft l h2 (by simp only [Bool.and_eq_true] at h3; exact h3.1)⟩
            exact ⟨hg5.os.trans hM.bel.os, hg5.tape.trans hM.bel.tape, hg5.output.trans hM.bel.output, Nat.le_trans hM.bel.size hg5.size, fun q hq => (hg5.block q (Nat.lt_of_lt_of_le hq hM.bel.size) (fun c => by injection c with c; omega)).trans (hM.bel.block q hq)⟩
          have hpl : (posL ts x).length ≤ k := by have := posN_le ts x ts.length; have h2 := HKN.out; unfold posL; omega
          clear M hkl hlx hmc hrg5 hlt5 hg5 hs5 hR hp he
          have z0 : (w5.alloc (.cells #[.int .i64 x.kind, .string x.text] 55)).cell? ⟨w5.heap.size, 0, none⟩ = some (.int .i64 x.kind) := newc 0 rfl
          have z1 : (w5.alloc (.cells #[.int .i64 x.kind, .string x.text] 55)).cell? ⟨w5.heap.size, 1, none⟩ = some (.string x.text) := newc 1 rfl
          have M6 := Lib.hid (M5.out.call (new1 (.cells #[.int .i64 x.kind, .string x.text] 55)))
          have HJC := Lib.hid (HJA.out x hx)
          clear M5 hx
          go_upto_region 11 with (fail)
          clear hen
          generalize w5.alloc (.cells #[.int .i64 x.kind, .string x.text] 55) = w6 at *
          have L0 := lift_cell z0
          have L1 := lift_cell z1
          clear z0 z1
          generalize w5.heap.size = qx at *
          generalize hjv : joinsD r.kinds r.most r.weaks ts x = jv at HJC
          have HJV : Hid (JX x = (jv && !eqId out x)) := by show _ = _; rw [HJX.out, ← hjv]; rfl
          clear hjv
          have HIN6 := Lib.hid (fun W (hW : Below w6.heap.size w6 W) => HIN.out W (M6.out.bel.trans (hW.mono M6.out.bel.size)))
          have P0 : ∀ W, Below w6.heap.size w6 W → W.cell? ⟨ob, 0, none⟩ = some (.int .i64 out.kind) := fun W hW => HO0.out W (M6.out.bel.trans (hW.mono M6.out.bel.size))
          have P1 : ∀ W, Below w6.heap.size w6 W → W.cell? ⟨ob, 1, none⟩ = some (.string out.text) := fun W hW => HO1.out W (M6.out.bel.trans (hW.mono M6.out.bel.size))
          cases jv with
          | false =>
            (refine wp_region_det 14 94 (fun W => Below (w6).heap.size (w6) W) (by kernel_rfl) (by kernel_rfl) (by rfl) (Below.refl _ _).drew ?_; simp only [List.take_succ_cons, List.take_zero, List.drop_succ_cons, List.drop_zero])
            iterate 2 (refine detSeq_op rfl ?_ (fun W hW => ?_) ?_; rotate_left; (focus simp only [OpV]; go_simp; first | exact rfl | exact ⟨rfl, hW⟩))
            (refine detSeq_op rfl ?_ (fun W hW => ?_) ?_; rotate_left; focus (simp only [OpV]; go_simp; refine (HJC.out W (HIN6.out W hW)).mono ?_; rintro e w' ⟨rfl, hb⟩; refine ⟨_, rfl, ?_, det_back hW hb⟩; exact rfl))
            iterate 2 (refine detSeq_op rfl ?_ (fun W hW => ?_) ?_; rotate_left; (focus simp only [OpV]; go_simp; first | exact rfl | exact ⟨rfl, hW⟩))
            iterate 9 (refine detSeq_no (by kernel_rfl) ?_)
            refine detSeq_nil (fun W7 hW7 => ?_)
            have M7 := Lib.hid ((M6.out.call hW7).edges (doneE_skip HX.out HP.out (by rw [HJV.out]; rfl)))
            clear hW7 L0 L1 P0 P1 HJC M6
            go_wp2_with fail
            exact ⟨⟨_, _, _, M7⟩, by rw [M7.out.rg.left_eq, HCN.out.2]; exact HCN.out.1⟩
          | true =>
            cases k1 : (out.kind == x.kind) with
            | false =>
              have HJ2 : Hid (JX x = true) := by
                show _ = _
                rw [HJV.out]
                have : eqId out x = false := by
                  cases e : eqId out x with
                  | false => rfl
                  | true => rw [eqId_iff.1 e] at k1; simp at k1
                rw [this]; rfl
              (refine wp_region_det 14 94 (fun W => Below (w6).heap.size (w6) W) (by kernel_rfl) (by kernel_rfl) (by rfl) (Below.refl _ _).drew ?_; simp only [List.take_succ_cons, List.take_zero, List.drop_succ_cons, List.drop_zero])
              iterate 2 (refine detSeq_op rfl ?_ (fun W hW => ?_) ?_; rotate_left; (focus simp only [OpV]; go_simp; first | exact rfl | exact ⟨rfl, hW⟩))
              (refine detSeq_op rfl ?_ (fun W hW => ?_) ?_; rotate_left; focus (simp only [OpV]; go_simp; refine (HJC.out W (HIN6.out W hW)).mono ?_; rintro e w' ⟨rfl, hb⟩; refine ⟨_, rfl, ?_, det_back hW hb⟩; exact rfl))
              iterate 2 (refine detSeq_op rfl ?_ (fun W hW => ?_) ?_; rotate_left; (focus simp only [OpV]; go_simp; first | exact rfl | exact ⟨rfl, hW⟩))
              iterate 3 (refine detSeq_yes (by kernel_rfl) ?_ (fun W hW => ?_) ?_; rotate_left; (focus simp only [OpV]; go_simp; first | exact rfl | exact ⟨rfl, hW⟩))
              iterate 5 (refine detSeq_yes (by kernel_rfl) ?_ (fun W hW => ?_) ?_; rotate_left; (focus simp only [OpV]; go_simp; first | exact rfl | exact ⟨rfl, hW⟩))
              iterate 1 (refine detSeq_yes (by kernel_rfl) ?_ (fun W hW => ?_) ?_; rotate_left; (focus simp only [OpV]; go_simp; first | exact rfl | exact ⟨rfl, hW⟩))
              refine detSeq_nil (fun W7 hW7 => ?_)
              have M7 := Lib.hid (M6.out.call hW7)
              clear hW7 L0 L1 P0 P1 HJC M6 HIN6
              have hp1 : 0 < (posL ts x).length := List.length_pos_iff.2 HP.out
              have HTK := Lib.hid (fun i j => doneE_take (J := JX) (left := left) HX.out HP.out HJ2.out i j)
              have hin7 := HIN.out _ M7.out.bel
              obtain ⟨pb, po, rfl, _, _⟩ := HR.out.at_ hin7 hp1 (by omega)
              have HPOS : Hid (∀ z ∈ posL ts x, ∃ q : Nat, z = (q : Int) ∧ q < k) := fun z hz => by
                obtain ⟨q, e, h1, _⟩ := mem_posN.1 hz
                exact ⟨q, e, by have := HKN.out; omega⟩
              clear hin7
              generalize posL ts x = ps at *
              have M8 : Hid (MapL w pr g k bm rb nm m (fun i j => DoneE JX ts (Gone ts left) i j ∨ Star ps (0 + 1) i j) (fun z => left z && !z.sameKey (klId x)) cnt5 rr W7) :=
                M7.out.edges fun i j => ⟨Or.inl, fun h => h.elim id (fun h => absurd h (Star.one (by omega) i j))⟩
              have hp2 : (1 : Int) ≤ ps.length := by omega
              have hp3 : 1 ≤ ps.length := by omega
              clear M7
              by_cases hpc1 : pc = 1
              · have hps1 : ps.length = 1 := by omega
                have M9 : Hid (MapL w pr g k bm rb nm m (DoneE JX ts (Gone ts fun z => left z && !z.sameKey (klId x))) (fun z => left z && !z.sameKey (klId x)) cnt5 rr W7) := by
                  refine M8.out.edges fun i j => ?_
                  have := HTK.out i j
                  rw [hps1] at this
                  exact this
                clear M8
                go_wp2_with fail
                refine wp_loop_rounds 1 ?_
                rw [rounds_succ]
                go_wp2_with fail
                exact ⟨⟨_, _, _, M9⟩, by rw [M9.out.rg.left_eq, HCN.out.2]; exact HCN.out.1⟩
              · go_wp2_with fail
                go_loopw [60] (fun t wq => ∃ (q : Nat) (rq : List Nat), t = .int .i64 q ∧ q ≤ ps.length - 1 ∧ Hid (MapL w pr g k bm rb nm m (fun i j => DoneE JX ts (Gone ts left) i j ∨ Star ps (q + 1) i j) (fun z => left z && !z.sameKey (klId x)) cnt5 rq wq)) (fun t _ => ps.length - 1 - (intOf t).toNat)
                case atStart => exact ⟨0, rr, rfl, by omega, M8⟩
                case round =>
                  obtain ⟨q, rq, rfl, hq, MQ⟩ := hrel
                  clear M8
                  by_cases hlq : q < ps.length - 1
                  · have hin9 := HIN.out _ MQ.out.bel
                    have hq1 : q + 1 < ps.length := by omega
                    obtain ⟨pb1, po1, e1, _, hc1⟩ := HR.out.at_ hin9 hq1 (by omega)
                    obtain ⟨pb2, po2, e2, _, hc2⟩ := HR.out.at_ hin9 hp1 (by omega)
                    injection e1 with e1
                    injection e1 with e1 e1'
                    injection e2 with e2
                    injection e2 with e2 e2'
                    subst e1 e1' e2 e2'
                    have c1 : wr.cell? ⟨pb, po + 1 + q, none⟩ = some (.int .i64 ps[q + 1]) := by have := hc1 0 (by omega); rw [show po + (q + 1) * 1 + 0 = po + 1 + q from by omega] at this; exact this
                    have c0 : wr.cell? ⟨pb, po, none⟩ = some (.int .i64 ps[0]) := by have := hc2 0 (by omega); rw [show po + 0 * 1 + 0 = po from by omega] at this; exact this
                    obtain ⟨a0, ha0, ha1⟩ := HPOS.out _ (List.getElem_mem hp1)
                    obtain ⟨b0, hb0, hb1⟩ := HPOS.out _ (List.getElem_mem hq1)
                    have HST : Hid (∀ i j, Star ps (q + 1 + 1) i j ↔ Star ps (q + 1) i j ∨ (i = a0 ∧ j = b0)) := fun i j => Star.succ (by omega) (by rw [List.getElem?_eq_getElem hp1, ha0]) (by rw [List.getElem?_eq_getElem hq1, hb0]) i j
                    rw [ha0] at c0
                    rw [hb0] at c1
                    have hlq2 : (q : Int) < (ps.length : Int) - 1 := by omega
                    have hlq3 : (q : Int) < ((ps.length - 1 : Nat) : Int) := by omega
                    clear hin9 hc1 hc2 ha0 hb0 hpc1
                    go_wp2_with fail
                    refine (find_any pr g k rq _ MQ.out.rt MQ.out.dn a0 ha1 (by omega)).mono ?_
                    rintro e v1 ⟨rfl, hq1'⟩
                    obtain ⟨r1, hj1, M1⟩ := MQ.out.find HRB.out.2.2.1 HRB.out.1 HRB.out.2.1 hq1'
                    have MM1 := Lib.hid M1
                    have HJ1 := Lib.hid hj1
                    clear M1 hj1 hq1' c0 c1
                    go_wp2_with fail
                    refine (find_any pr g k r1 _ MM1.out.rt MM1.out.dn b0 hb1 (by omega)).mono ?_
                    rintro e v2 ⟨rfl, hq2'⟩
                    obtain ⟨r2, hj2, M2⟩ := MM1.out.find HRB.out.2.2.1 HRB.out.1 HRB.out.2.1 hq2'
                    have hA : repN rq a0 = repN r2 a0 := by rw [hj2, HJ1.out]
                    have hB : repN r1 b0 = repN r2 b0 := (hj2 b0).symm
                    rw [hA, hB]
                    have hla := repN_le r2 a0
                    have hlb := repN_le r2 b0
                    have HJN : Hid (MapL w pr g k bm rb nm m (fun i j => DoneE JX ts (Gone ts left) i j ∨ Star ps (q + 1 + 1) i j) (fun z => left z && !z.sameKey (klId x)) cnt5 (r2.set (max (repN r2 a0) (repN r2 b0)) (min (repN r2 a0) (repN r2 b0))) (v2.setCell ⟨g, max (repN r2 a0) (repN r2 b0), none⟩ (.int .i64 ((min (repN r2 a0) (repN r2 b0) : Nat) : Int)))) :=
                      (M2.join HRB.out.2.2.1 HRB.out.1 HRB.out.2.1 rfl rfl ha1 hb1).edges fun i j => by rw [HST.out i j, or_assoc]
                    have p0 : v2.cell? ⟨pr, 0, none⟩ = some (.slice (some ⟨g, 0, none⟩) k k) := cell_h M2.rt.ptr 0 rfl
                    have hmk : max (repN r2 a0) (repN r2 b0) < k := by omega
                    have cm := M2.rt.cell _ hmk
                    have fm : v2.frozen? ⟨g, max (repN r2 a0) (repN r2 b0), none⟩ = false := M2.rt.blk.frozen _
                    have e1 : max ((repN r2 a0 : Nat) : Int) ((repN r2 b0 : Nat) : Int) = ((max (repN r2 a0) (repN r2 b0) : Nat) : Int) := by omega
                    have e2 : min ((repN r2 a0 : Nat) : Int) ((repN r2 b0 : Nat) : Int) = ((min (repN r2 a0) (repN r2 b0) : Nat) : Int) := by omega
                    clear M2 MM1 HJ1 hj2 hq2' hA hB MQ HST hla hlb
                    generalize repN r2 a0 = a at *
                    generalize repN r2 b0 = b at *
                    generalize max a b = mx at *
                    generalize min a b = mn at *
                    generalize r2.getD mx mx = old at *
                    generalize r2.set mx mn = r3 at *
                    have hmk2 : (mx : Int) < k := by omega
                    go_wp2_with fail
                    clear e1 e2
                    go_roundw
                    case rel => exact ⟨q + 1, _, by go_num, by omega, HJN⟩
                    case measure => simp [intOf]; omega
                  · have hqe : q + 1 = ps.length := by omega
                    have M9 : Hid (MapL w pr g k bm rb nm m (DoneE JX ts (Gone ts fun z => left z && !z.sameKey (klId x))) (fun z => left z && !z.sameKey (klId x)) cnt5 rq wr) := by
                      refine MQ.out.edges fun i j => ?_
                      rw [hqe]
                      exact HTK.out i j
                    clear MQ
                    go_wp2_with fail
                    exact ⟨⟨_, _, _, M9⟩, by rw [M9.out.rg.left_eq, HCN.out.2]; exact HCN.out.1⟩
            | true =>
              cases k2 : (out.text.toList == x.text.toList) with
              | false =>
                have HJ2 : Hid (JX x = true) := by
                  show _ = _
                  rw [HJV.out]
                  have : eqId out x = false := by
                    cases e : eqId out x with
                    | false => rfl
                    | true => rw [eqId_iff.1 e] at k2; simp at k2
                  rw [this]; rfl
                (refine wp_region_det 14 94 (fun W => Below (w6).heap.size (w6) W) (by kernel_rfl) (by kernel_rfl) (by rfl) (Below.refl _ _).drew ?_; simp only [List.take_succ_cons, List.take_zero, List.drop_succ_cons, List.drop_zero])
                iterate 2 (refine detSeq_op rfl ?_ (fun W hW => ?_) ?_; rotate_left; (focus simp only [OpV]; go_simp; first | exact rfl | exact ⟨rfl, hW⟩))
                (refine detSeq_op rfl ?_ (fun W hW => ?_) ?_; rotate_left; focus (simp only [OpV]; go_simp; refine (HJC.out W (HIN6.out W hW)).mono ?_; rintro e w' ⟨rfl, hb⟩; refine ⟨_, rfl, ?_, det_back hW hb⟩; exact rfl))
                iterate 2 (refine detSeq_op rfl ?_ (fun W hW => ?_) ?_; rotate_left; (focus simp only [OpV]; go_simp; first | exact rfl | exact ⟨rfl, hW⟩))
                iterate 3 (refine detSeq_yes (by kernel_rfl) ?_ (fun W hW => ?_) ?_; rotate_left; (focus simp only [OpV]; go_simp; first | exact rfl | exact ⟨rfl, hW⟩))
                iterate 5 (refine detSeq_yes (by kernel_rfl) ?_ (fun W hW => ?_) ?_; rotate_left; (focus simp only [OpV]; go_simp; first | exact rfl | exact ⟨rfl, hW⟩))
                iterate 1 (refine detSeq_yes (by kernel_rfl) ?_ (fun W hW => ?_) ?_; rotate_left; (focus simp only [OpV]; go_simp; first | exact rfl | exact ⟨rfl, hW⟩))
                refine detSeq_nil (fun W7 hW7 => ?_)
                have M7 := Lib.hid (M6.out.call hW7)
                clear hW7 L0 L1 P0 P1 HJC M6 HIN6
                have hp1 : 0 < (posL ts x).length := List.length_pos_iff.2 HP.out
                have HTK := Lib.hid (fun i j => doneE_take (J := JX) (left := left) HX.out HP.out HJ2.out i j)
                have hin7 := HIN.out _ M7.out.bel
                obtain ⟨pb, po, rfl, _, _⟩ := HR.out.at_ hin7 hp1 (by omega)
                have HPOS : Hid (∀ z ∈ posL ts x, ∃ q : Nat, z = (q : Int) ∧ q < k) := fun z hz => by
                  obtain ⟨q, e, h1, _⟩ := mem_posN.1 hz
                  exact ⟨q, e, by have := HKN.out; omega⟩
                clear hin7
                generalize posL ts x = ps at *
                have M8 : Hid (MapL w pr g k bm rb nm m (fun i j => DoneE JX ts (Gone ts left) i j ∨ Star ps (0 + 1) i j) (fun z => left z && !z.sameKey (klId x)) cnt5 rr W7) :=
                  M7.out.edges fun i j => ⟨Or.inl, fun h => h.elim id (fun h => absurd h (Star.one (by omega) i j))⟩
                have hp2 : (1 : Int) ≤ ps.length := by omega
                have hp3 : 1 ≤ ps.length := by omega
                clear M7
                by_cases hpc1 : pc = 1
                · have hps1 : ps.length = 1 := by omega
                  have M9 : Hid (MapL w pr g k bm rb nm m (DoneE JX ts (Gone ts fun z => left z && !z.sameKey (klId x))) (fun z => left z && !z.sameKey (klId x)) cnt5 rr W7) := by
                    refine M8.out.edges fun i j => ?_
                    have := HTK.out i j
                    rw [hps1] at this
                    exact this
                  clear M8
                  go_wp2_with fail
                  refine wp_loop_rounds 1 ?_
                  rw [rounds_succ]
                  go_wp2_with fail
                  exact ⟨⟨_, _, _, M9⟩, by rw [M9.out.rg.left_eq, HCN.out.2]; exact HCN.out.1⟩
                · go_wp2_with fail
                  go_loopw [60] (fun t wq => ∃ (q : Nat) (rq : List Nat), t = .int .i64 q ∧ q ≤ ps.length - 1 ∧ Hid (MapL w pr g k bm rb nm m (fun i j => DoneE JX ts (Gone ts left) i j ∨ Star ps (q + 1) i j) (fun z => left z && !z.sameKey (klId x)) cnt5 rq wq)) (fun t _ => ps.length - 1 - (intOf t).toNat)
                  case atStart => exact ⟨0, rr, rfl, by omega, M8⟩
                  case round =>
                    obtain ⟨q, rq, rfl, hq, MQ⟩ := hrel
                    clear M8
                    by_cases hlq : q < ps.length - 1
                    · have hin9 := HIN.out _ MQ.out.bel
                      have hq1 : q + 1 < ps.length := by omega
                      obtain ⟨pb1, po1, e1, _, hc1⟩ := HR.out.at_ hin9 hq1 (by omega)
                      obtain ⟨pb2, po2, e2, _, hc2⟩ := HR.out.at_ hin9 hp1 (by omega)
                      injection e1 with e1
                      injection e1 with e1 e1'
                      injection e2 with e2
                      injection e2 with e2 e2'
                      subst e1 e1' e2 e2'
                      have c1 : wr.cell? ⟨pb, po + 1 + q, none⟩ = some (.int .i64 ps[q + 1]) := by have := hc1 0 (by omega); rw [show po + (q + 1) * 1 + 0 = po + 1 + q from by omega] at this; exact this
                      have c0 : wr.cell? ⟨pb, po, none⟩ = some (.int .i64 ps[0]) := by have := hc2 0 (by omega); rw [show po + 0 * 1 + 0 = po from by omega] at this; exact this
                      obtain ⟨a0, ha0, ha1⟩ := HPOS.out _ (List.getElem_mem hp1)
                      obtain ⟨b0, hb0, hb1⟩ := HPOS.out _ (List.getElem_mem hq1)
                      have HST : Hid (∀ i j, Star ps (q + 1 + 1) i j ↔ Star ps (q + 1) i j ∨ (i = a0 ∧ j = b0)) := fun i j => Star.succ (by omega) (by rw [List.getElem?_eq_getElem hp1, ha0]) (by rw [List.getElem?_eq_getElem hq1, hb0]) i j
                      rw [ha0] at c0
                      rw [hb0] at c1
                      have hlq2 : (q : Int) < (ps.length : Int) - 1 := by omega
                      have hlq3 : (q : Int) < ((ps.length - 1 : Nat) : Int) := by omega
                      clear hin9 hc1 hc2 ha0 hb0 hpc1
                      go_wp2_with fail
                      refine (find_any pr g k rq _ MQ.out.rt MQ.out.dn a0 ha1 (by omega)).mono ?_
                      rintro e v1 ⟨rfl, hq1'⟩
                      obtain ⟨r1, hj1, M1⟩ := MQ.out.find HRB.out.2.2.1 HRB.out.1 HRB.out.2.1 hq1'
                      have MM1 := Lib.hid M1
                      have HJ1 := Lib.hid hj1
                      clear M1 hj1 hq1' c0 c1
                      go_wp2_with fail
                      refine (find_any pr g k r1 _ MM1.out.rt MM1.out.dn b0 hb1 (by omega)).mono ?_
                      rintro e v2 ⟨rfl, hq2'⟩
                      obtain ⟨r2, hj2, M2⟩ := MM1.out.find HRB.out.2.2.1 HRB.out.1 HRB.out.2.1 hq2'
                      have hA : repN rq a0 = repN r2 a0 := by rw [hj2, HJ1.out]
                      have hB : repN r1 b0 = repN r2 b0 := (hj2 b0).symm
                      rw [hA, hB]
                      have hla := repN_le r2 a0
                      have hlb := repN_le r2 b0
                      have HJN : Hid (MapL w pr g k bm rb nm m (fun i j => DoneE JX ts (Gone ts left) i j ∨ Star ps (q + 1 + 1) i j) (fun z => left z && !z.sameKey (klId x)) cnt5 (r2.set (max (repN r2 a0) (repN r2 b0)) (min (repN r2 a0) (repN r2 b0))) (v2.setCell ⟨g, max (repN r2 a0) (repN r2 b0), none⟩ (.int .i64 ((min (repN r2 a0) (repN r2 b0) : Nat) : Int)))) :=
                        (M2.join HRB.out.2.2.1 HRB.out.1 HRB.out.2.1 rfl rfl ha1 hb1).edges fun i j => by rw [HST.out i j, or_assoc]
                      have p0 : v2.cell? ⟨pr, 0, none⟩ = some (.slice (some ⟨g, 0, none⟩) k k) := cell_h M2.rt.ptr 0 rfl
                      have hmk : max (repN r2 a0) (repN r2 b0) < k := by omega
                      have cm := M2.rt.cell _ hmk
                      have fm : v2.frozen? ⟨g, max (repN r2 a0) (repN r2 b0), none⟩ = false := M2.rt.blk.frozen _
                      have e1 : max ((repN r2 a0 : Nat) : Int) ((repN r2 b0 : Nat) : Int) = ((max (repN r2 a0) (repN r2 b0) : Nat) : Int) := by omega
                      have e2 : min ((repN r2 a0 : Nat) : Int) ((repN r2 b0 : Nat) : Int) = ((min (repN r2 a0) (repN r2 b0) : Nat) : Int) := by omega
                      clear M2 MM1 HJ1 hj2 hq2' hA hB MQ HST hla hlb
                      generalize repN r2 a0 = a at *
                      generalize repN r2 b0 = b at *
                      generalize max a b = mx at *
                      generalize min a b = mn at *
                      generalize r2.getD mx mx = old at *
                      generalize r2.set mx mn = r3 at *
                      have hmk2 : (mx : Int) < k := by omega
                      go_wp2_with fail
                      clear e1 e2
                      go_roundw
                      case rel => exact ⟨q + 1, _, by go_num, by omega, HJN⟩
                      case measure => simp [intOf]; omega
                    · have hqe : q + 1 = ps.length := by omega
                      have M9 : Hid (MapL w pr g k bm rb nm m (DoneE JX ts (Gone ts fun z => left z && !z.sameKey (klId x))) (fun z => left z && !z.sameKey (klId x)) cnt5 rq wr) := by
                        refine MQ.out.edges fun i j => ?_
                        rw [hqe]
                        exact HTK.out i j
                      clear MQ
                      go_wp2_with fail
                      exact ⟨⟨_, _, _, M9⟩, by rw [M9.out.rg.left_eq, HCN.out.2]; exact HCN.out.1⟩
              | true =>
                have HJ2 : Hid (JX x = false) := by
                  show _ = _
                  rw [HJV.out]
                  have h1 : out.kind = x.kind := by simpa using k1
                  have h2 : out.text = x.text := eqS_iff.1 k2
                  have : eqId out x = true := eqId_iff.2 (by cases out; cases x; simp_all)
                  rw [this]; rfl
                (refine wp_region_det 14 94 (fun W => Below (w6).heap.size (w6) W) (by kernel_rfl) (by kernel_rfl) (by rfl) (Below.refl _ _).drew ?_; simp only [List.take_succ_cons, List.take_zero, List.drop_succ_cons, List.drop_zero])
                iterate 2 (refine detSeq_op rfl ?_ (fun W hW => ?_) ?_; rotate_left; (focus simp only [OpV]; go_simp; first | exact rfl | exact ⟨rfl, hW⟩))
                (refine detSeq_op rfl ?_ (fun W hW => ?_) ?_; rotate_left; focus (simp only [OpV]; go_simp; refine (HJC.out W (HIN6.out W hW)).mono ?_; rintro e w' ⟨rfl, hb⟩; refine ⟨_, rfl, ?_, det_back hW hb⟩; exact rfl))
                iterate 2 (refine detSeq_op rfl ?_ (fun W hW => ?_) ?_; rotate_left; (focus simp only [OpV]; go_simp; first | exact rfl | exact ⟨rfl, hW⟩))
                iterate 3 (refine detSeq_yes (by kernel_rfl) ?_ (fun W hW => ?_) ?_; rotate_left; (focus simp only [OpV]; go_simp; first | exact rfl | exact ⟨rfl, hW⟩))
                iterate 5 (refine detSeq_yes (by kernel_rfl) ?_ (fun W hW => ?_) ?_; rotate_left; (focus simp only [OpV]; go_simp; first | exact rfl | exact ⟨rfl, hW⟩))
                iterate 1 (refine detSeq_yes (by kernel_rfl) ?_ (fun W hW => ?_) ?_; rotate_left; (focus simp only [OpV]; go_simp; first | exact rfl | exact ⟨rfl, hW⟩))
                refine detSeq_nil (fun W7 hW7 => ?_)
                have M7 := Lib.hid ((M6.out.call hW7).edges (doneE_skip HX.out HP.out HJ2.out))
                clear hW7 L0 L1 P0 P1 HJC M6
                go_wp2_with fail
                exact ⟨⟨_, _, _, M7⟩, by rw [M7.out.rg.left_eq, HCN.out.2]; exact HCN.out.1⟩
end Go.Proofs.YtbidhpgjmcedaaaGreatDoor
