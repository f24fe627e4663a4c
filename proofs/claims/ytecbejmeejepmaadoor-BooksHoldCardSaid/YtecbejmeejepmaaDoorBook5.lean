/- Books of coupons: a new one. -/
import Derived.Test.YtecbejmeejepmaaDoorBook4
import Derived.Carry
namespace Go.Proofs.YtecbejmeejepmaaDoor
set_option linter.unusedVariables false
open Go.RowKit

/-- What NewBook leaves. -/
def NBPost (H : Frz) (ds : List CouponD) (W : World) (e : Ending) (W' : World) : Prop :=
  Below W.heap.size W W' ∧ ((∃ n : Int, n ≠ 0 ∧ e = .returned (.tuple #[.pointer none, .int .i64 n]) ∧ ¬ CouponsOK ds) ∨
    (CouponsOK ds ∧ ∃ g H1, e = .returned (.tuple #[.pointer (some ⟨g, 0, none⟩), .int .i64 0]) ∧ W.heap.size ≤ g ∧ H.Le H1 ∧ (∀ b, b < W.heap.size → H1 b = H b) ∧ BS H1 W' g ds []))
theorem NBPost.bad {H : Frz} {ds : List CouponD} {W W' : World} {n : Int} (hn : n ≠ 0) (h : ¬ CouponsOK ds) (hb : Below W.heap.size W W') : NBPost H ds W (.returned (.tuple #[.pointer none, .int .i64 n])) W' := ⟨hb, Or.inl ⟨n, hn, rfl, h⟩⟩
theorem NBPost.good {H : Frz} {ds : List CouponD} {W W' : World} (hH : H.In W) (hOK : CouponsOK ds) (hb : Below W.heap.size W W') {n : Nat} (hg : W'.heap[W.heap.size + 1]? = some (.cells #[.map (some W.heap.size), .slice none 0 0] 71 (0, 0))) (hM : Mp Tryd.prog 9 W' W.heap.size n (coMap ds)) :
    NBPost H ds W (.returned (.tuple #[.pointer (some ⟨W.heap.size + 1, 0, none⟩), .int .i64 0])) W' := by
  obtain ⟨o, ho, hMo⟩ := hM.obj
  have hn : H W.heap.size = none := hH.none_ (Nat.le_refl _)
  refine ⟨hb, Or.inr ⟨hOK, W.heap.size + 1, H.add W.heap.size o, rfl, by omega, Frz.le_add hn, fun b hlt => Frz.add_other (by omega), ?_⟩⟩
  refine ⟨⟨W.heap.size, n, _, hg, ⟨o, Frz.add_at _ _ _, hMo⟩, Orow.nil _ _ _ _ _⟩, by simp, ?_, (hH.below hb).add ho⟩
  intro b o' e
  unfold Frz.add at e
  split at e
  · omega
  · have := hH.lt e; omega
/-- What is so at the head of the loop. -/
structure NBInv (ds : List CouponD) (W : World) (i : Nat) (wr : World) : Prop where
  bel : Below W.heap.size W wr
  book : wr.heap[W.heap.size + 1]? = some (.cells #[.map (some W.heap.size), .slice none 0 0] 71 (0, 0))
  map : Mp Tryd.prog 9 wr W.heap.size i (coMap (ds.take i))
  ok : ∀ j, j < i → coAt ds j
theorem NBInv.new (ds : List CouponD) (W : World) : NBInv ds W 0 ((W.alloc (.map #[] 0)).alloc (.cells #[.map (some W.heap.size), .slice none 0 0] 71)) := by
  have h1 := (Below.refl W.heap.size W).alloc (Nat.le_refl _) (.map #[] 0)
  refine ⟨h1.alloc h1.size _, heap_at (by simp), ?_, fun j hj => by omega⟩
  have := (Mp.made Tryd.prog 9 W).alloc (.cells #[.map (some W.heap.size), .slice none 0 0] 71)
  exact this
theorem NBInv.call {ds : List CouponD} {W wr w' : World} {i : Nat} (h : NBInv ds W i wr) (hb : Below wr.heap.size wr w') : NBInv ds W i w' :=
  ⟨h.bel.trans (hb.mono h.bel.size), (hb.block _ (lt_of_heap h.book)).trans h.book, h.map.below hb, h.ok⟩
theorem NBInv.alloc {ds : List CouponD} {W wr : World} {i : Nat} (h : NBInv ds W i wr) (o : Obj) : NBInv ds W i (wr.alloc o) := h.call ((Below.refl _ _).alloc (Nat.le_refl _) _)
theorem NBInv.put {ds : List CouponD} {W wr w' : World} {i : Nat} (h : NBInv ds W i wr) (hi : i < ds.length) (hat : coAt ds i) (hno : coOf (ds.take i) ds[i].code = none) (hM : Mp Tryd.prog 9 w' W.heap.size (i + 1) (mpSet (coMap (ds.take i)) (codeLit ds[i].code) (coVal ds[i]))) (hg : wr.grownBy w' (some W.heap.size)) : NBInv ds W (i + 1) w' := by
  refine ⟨h.bel.grown hg h.bel.size (fun k hk => by injection hk with hk; omega), (hg.block _ (lt_of_heap h.book) (fun e => by injection e; omega)).trans h.book, ?_, costep_ok h.ok hat⟩
  rw [coMap_snoc _ _ hno] at hM
  rw [List.take_succ_eq_append_getElem hi]
  exact hM
set_option maxHeartbeats 2000000 in
set_option maxRecDepth 20000 in
theorem newBook_any (H : Frz) (A : Option Addr) (cap : Nat) (ds : List CouponD) (W : World) (hH : H.In W) (hR : Rw H A 6 fCo ds) (hsz : CoB ds) (hl : ds.length ≤ 1000000) (hcap : ds.length ≤ cap) :
    Calls Tryd.prog 6 #[.slice A ds.length cap] W (NBPost H ds W) := by
  have HR := Lib.hid hR
  have HH := Lib.hid hH
  have HS := Lib.hid hsz
  have hmm := @run_makeMap Tryd.prog
  clear hR hH hsz
  by_cases hbig : 1000 < ds.length
  · go_enter Tryd.func6, Tryd.ntmps6
    go_wp2_with fail
    go_ret2
    exact NBPost.bad (by omega) (fun h => by have := h.1; omega) (Below.refl _ _)
  · have HNEW := Lib.hid (NBInv.new ds W)
    go_enter Tryd.func6, Tryd.ntmps6
    go_wp2_with fail
    clear hmm
    go_loopw [18] (fun t wr => ∃ i : Nat, i ≤ ds.length ∧ t = .int .i64 i ∧ Hid (NBInv ds W i wr)) (fun t _ => ds.length - (intOf t).toNat)
    case atStart => exact ⟨0, by omega, rfl, HNEW⟩
    case round =>
      obtain ⟨i, hi, rfl, hinv⟩ := hrel
      by_cases hlt : i < ds.length
      · have hin := HH.out.below hinv.out.bel
        obtain ⟨b, off, hA, hbl, hc⟩ := HR.out.at_ hin hlt (by omega)
        subst hA
        have c0 : wr.cell? ⟨b, off + i * 6, none⟩ = some (.string ds[i].code) := hc 0 (by omega)
        have c1 : wr.cell? ⟨b, off + i * 6 + 1, none⟩ = some (.string ds[i].offer) := hc 1 (by omega)
        have c2 : wr.cell? ⟨b, off + i * 6 + 2, none⟩ = some (.int .i64 ds[i].most) := hc 2 (by omega)
        have c3 : wr.cell? ⟨b, off + i * 6 + 3, none⟩ = some (.int .i64 ds[i].each) := hc 3 (by omega)
        have c4 : wr.cell? ⟨b, off + i * 6 + 4, none⟩ = some (.int .i64 ds[i].first) := hc 4 (by omega)
        have c5 : wr.cell? ⟨b, off + i * 6 + 5, none⟩ = some (.int .i64 ds[i].last) := hc 5 (by omega)
        have hks := HS.out _ (List.getElem_mem hlt)
        have hbad : Hid (¬ coAt ds i → ¬ CouponsOK ds) := fun h e => h (e.2 i)
        have hat : Hid (codeErr ds[i].code = 0 → anyF (sameCode ds[i].code) (ds.take i) = false → isKey ds[i].offer = true → limC ds[i] = true → coAt ds i) := fun h1 h2 h3 h4 h => ⟨h1, h2, h3, h4⟩
        have hno : Hid (coAt ds i → codeErr ds[i].code = 0 ∧ anyF (sameCode ds[i].code) (ds.take i) = false ∧ isKey ds[i].offer = true ∧ limC ds[i] = true) := fun h => h hlt
        have HPUT : Hid (∀ w1 w2, NBInv ds W i w1 → coAt ds i → coOf (ds.take i) ds[i].code = none → Mp Tryd.prog 9 w2 W.heap.size (i + 1) (mpSet (coMap (ds.take i)) (codeLit ds[i].code) (coVal ds[i])) → w1.grownBy w2 (some W.heap.size) → NBInv ds W (i + 1) w2) := fun w1 w2 h1 h2 h3 h4 h5 => h1.put hlt h2 h3 h4 h5
        clear hc
        generalize ds[i] = d at c0 c1 c2 c3 c4 c5 hks hat hno HPUT
        have HIN := Lib.hid hin
        clear hin
        obtain ⟨H2, hl2, hbx, hin2⟩ := HIN.out.put (.cells #[.string d.code, .string d.offer, .int .i64 d.most, .int .i64 d.each, .int .i64 d.first, .int .i64 d.last] 44)
        have HI2 := Lib.hid (hinv.out.alloc (.cells #[.string d.code, .string d.offer, .int .i64 d.most, .int .i64 d.each, .int .i64 d.first, .int .i64 d.last] 44))
        have HBX := Lib.hid hbx
        have HIN2 := Lib.hid hin2
        clear hl2 hbx hin2
        go_upto_region 7 with (fail)
        clear c0 c1 c2 c3 c4 c5
        generalize hg : wr.heap.size = g at HBX
        generalize wr.alloc _ = W1 at HI2 HIN2
        obtain ⟨z0, z1, z2, z3, z4, z5⟩ := frz6 HIN2.out HBX.out
        clear hg
        go_wp2_with fail
        refine (checkCode_any d.code W1 hks.1).mono ?_
        rintro e w' ⟨rfl, rfl⟩
        generalize codeErr d.code = q at hat hno
        by_cases hq0 : q = 0
        · subst hq0
          have x0 : W1.cell? ⟨W.heap.size + 1, 0, none⟩ = some (.map (some W.heap.size)) := by simp [World.cell?, HI2.out.book]
          have hglt : W.heap.size + 1 < W1.heap.size := lt_of_heap HI2.out.book
          have HK1 := Lib.hid (strKey (s := d.code) (by omega))
          go_upto_region 10 with (fail)
          cases hco : coOf (ds.take i) d.code with
          | some dd =>
            have HLK : Hid (∀ W2, Below W1.heap.size W1 W2 → (Instr.lookup 69 (.map (some W.heap.size)) (.string d.code) true).run Tryd.prog W2 = .ok (.tuple #[.agg #[.string dd.code, .string dd.offer, .int .i64 dd.most, .int .i64 dd.each, .int .i64 dd.first, .int .i64 dd.last], .bool true]) W2) := fun W2 hW2 =>
              (HI2.out.call hW2).map.look_some strKeyed Tryd.underlying69 (zeroCoupon W2) HK1.out (by rw [coMap_at, hco]; rfl) true
            have HBAD : Hid (¬ CouponsOK ds) := hbad.out (fun h => by have := (hno.out h).2.1; rw [← coOf_none, hco] at this; cases this)
            clear hco
            have HF := Lib.hid (NBPost.bad (H := H) (n := 6) (by omega) HBAD.out (HI2.out.alloc (.cells #[.string dd.code, .string dd.offer, .int .i64 dd.most, .int .i64 dd.each, .int .i64 dd.first, .int .i64 dd.last] 44)).bel.drew)
            have hB1 : ∀ o, Below W1.heap.size W1 (W1.alloc o) := fun o => (Below.refl _ _).alloc (Nat.le_refl _) _
            have hL0 := HLK.out W1 (Below.refl _ _)
            have hL1 := HLK.out W1.drew (Below.refl _ _).drew
            have hL2 := fun o => HLK.out (W1.alloc o) (hB1 o)
            have hL3 := fun o => HLK.out (W1.alloc o).drew (hB1 o).drew
            have hL4 := fun o => HLK.out (W1.drew.alloc o) ((Below.refl W1.heap.size W1).drew.alloc (Nat.le_refl _) o)
            have hgw : g < W1.heap.size := HIN2.out.lt HBX.out
            clear hB1
            go_region
            clear hL0 hL1 hL2 hL3 hL4 z0 z1 z2 z3 z4 z5 x0
            go_wp2_with fail
            go_ret2
            exact HF.out
          | none =>
            have HLK : Hid (∀ W2, Below W1.heap.size W1 W2 → (Instr.lookup 69 (.map (some W.heap.size)) (.string d.code) true).run Tryd.prog W2 = .ok (.tuple #[.agg #[.string ⟨#[]⟩, .string ⟨#[]⟩, .int .i64 0, .int .i64 0, .int .i64 0, .int .i64 0], .bool false]) W2) := fun W2 hW2 =>
              (HI2.out.call hW2).map.look_none strKeyed Tryd.underlying69 (zeroCoupon W2) HK1.out (by rw [coMap_at, hco]; rfl) true
            have HCO := Lib.hid hco
            clear hco
            have HI3 := Lib.hid ((HI2.out.alloc (.cells #[.string ⟨#[]⟩, .string ⟨#[]⟩, .int .i64 0, .int .i64 0, .int .i64 0, .int .i64 0] 44)).call (Below.refl _ _).drew)
            have HIN3 := Lib.hid ((HIN2.out.alloc (.cells #[.string ⟨#[]⟩, .string ⟨#[]⟩, .int .i64 0, .int .i64 0, .int .i64 0, .int .i64 0] 44)).drewN 1)
            have hB1 : ∀ o, Below W1.heap.size W1 (W1.alloc o) := fun o => (Below.refl _ _).alloc (Nat.le_refl _) _
            have hL0 := HLK.out W1 (Below.refl _ _)
            have hL1 := HLK.out W1.drew (Below.refl _ _).drew
            have hL2 := fun o => HLK.out (W1.alloc o) (hB1 o)
            have hL3 := fun o => HLK.out (W1.alloc o).drew (hB1 o).drew
            have hL4 := fun o => HLK.out (W1.drew.alloc o) ((Below.refl W1.heap.size W1).drew.alloc (Nat.le_refl _) o)
            have hgw : g < W1.heap.size := HIN2.out.lt HBX.out
            clear hB1
            go_region
            clear hL0 hL1 hL2 hL3 hL4 z0 z1 z2 z3 z4 z5 x0 HI2 HIN2 HLK
            generalize hg3 : W1.heap.size = g3
            have HIN4 : Hid (H2.In (W1.alloc (.cells #[.string ⟨#[]⟩, .string ⟨#[]⟩, .int .i64 0, .int .i64 0, .int .i64 0, .int .i64 0] 44)).drew) := HIN3.out
            clear HIN3
            generalize (W1.alloc _).drew = W3 at HI3 HIN4
            clear hg3
            have HIN3 := HIN4
            obtain ⟨z0, z1, z2, z3, z4, z5⟩ := frz6 HIN3.out HBX.out
            have x0 : W3.cell? ⟨W.heap.size + 1, 0, none⟩ = some (.map (some W.heap.size)) := by simp [World.cell?, HI3.out.book]
            have HF : Hid (∀ n : Int, n ≠ 0 → ¬ coAt ds i → NBPost H ds W (.returned (.tuple #[.pointer none, .int .i64 n])) W3) := fun n hn h => NBPost.bad hn (hbad.out h) HI3.out.bel
            go_wp2_with fail
            refine (isKey_any d.offer W3 (by omega)).mono ?_
            rintro e w' ⟨rfl, rfl⟩
            generalize hik : isKey d.offer = ik at hat hno
            clear hik
            cases ik with
            | false =>
              have hn' : Hid (¬ coAt ds i) := fun h => by have := (hno.out h).2.2.1; cases this
              go_wp2_with fail
              go_ret2
              exact HF.out _ (by omega) hn'.out
            | true =>
              have hn' : Hid (limC d = false → ¬ coAt ds i) := fun hl h => by have := (hno.out h).2.2.2; rw [hl] at this; cases this
              go_wp2_with fail
              refine (offWithin_any _ _ _ _).mono ?_
              rintro e w' ⟨rfl, rfl⟩
              by_cases m1 : 1 ≤ d.most ∧ d.most ≤ 1000000
              · rw [show (decide (1 ≤ d.most) && decide (d.most ≤ 1000000)) = true from by simp; omega]
                go_wp2_with fail
                refine (offWithin_any _ _ _ _).mono ?_
                rintro e w' ⟨rfl, rfl⟩
                by_cases m2 : 1 ≤ d.each ∧ d.each ≤ 1000000
                · rw [show (decide (1 ≤ d.each) && decide (d.each ≤ 1000000)) = true from by simp; omega]
                  go_wp2_with fail
                  refine (isMoment_any _ _).mono ?_
                  rintro e w' ⟨rfl, rfl⟩
                  by_cases m3 : 0 ≤ d.first ∧ d.first ≤ 4321439
                  · rw [show (decide (0 ≤ d.first) && decide (d.first ≤ 4321439)) = true from by simp; omega]
                    go_wp2_with fail
                    refine (offWithin_any _ _ _ _).mono ?_
                    rintro e w' ⟨rfl, rfl⟩
                    by_cases m4 : d.first + 1 ≤ d.last ∧ d.last ≤ 4321440
                    · rw [show (decide (d.first + 1 ≤ d.last) && decide (d.last ≤ 4321440)) = true from by simp; omega]
                      have HAT : Hid (coAt ds i) := hat.out trivial (coOf_none.1 HCO.out) trivial (by simp [limC]; omega)
                      clear m1 m2 m3 m4
                      go_upto_region 17 with (fail)
                      have K0 := lift_cell z0
                      have K1 := lift_cell z1
                      have K2 := lift_cell z2
                      have K3 := lift_cell z3
                      have K4 := lift_cell z4
                      have K5 := lift_cell z5
                      have J0 := lift_cell x0
                      clear z0 z1 z2 z3 z4 z5 x0
                      (refine wp_region_det 7 80 (fun W => Below (W3).heap.size (W3) W) (by kernel_rfl) (by kernel_rfl) (by rfl) (Below.refl _ _).drew ?_; simp only [List.take_succ_cons, List.take_zero, List.drop_succ_cons, List.drop_zero])
                      iterate 6 (refine detSeq_op rfl ?_ (fun W hW => ?_) ?_; rotate_left; (focus simp only [OpV]; go_simp; first | exact rfl | exact ⟨rfl, hW⟩))
                      (refine detSeq_op rfl (.agg #[.string d.code, .string d.offer, .int .i64 d.most, .int .i64 d.each, .int .i64 d.first, .int .i64 d.last]) (fun W hW => ?_) ?_; focus (simp only [OpV]; go_simp; try (first | exact ⟨rfl, hW⟩ | exact hW)))
                      refine detSeq_nil (fun W4 hW4 => ?_)
                      have HI4 := Lib.hid (HI3.out.call hW4)
                      have HMP4 := Lib.hid HI4.out.map
                      have HLT : Hid (i < maxLen) := by show _ < _; unfold maxLen; omega
                      clear K0 K1 K2 K3 K4 K5 J0 hW4
                      refine wpList_mp_set W4 rfl (.tmp 74) (.tmp 76) (.tmp 77) 69 rfl 9 44 strKeyed Tryd.underlying69 W.heap.size i (coMap (ds.take i)) (by go_simp) HMP4.out HLT.out (.string d.code) (.agg #[.string d.code, .string d.offer, .int .i64 d.most, .int .i64 d.each, .int .i64 d.first, .int .i64 d.last]) (codeLit d.code) (by go_simp) (by go_simp) HK1.out ?_
                      intro W5 hM5 hg5 hz5
                      have HI5 := Lib.hid (HPUT.out _ _ HI4.out HAT.out HCO.out hM5 hg5)
                      clear hM5 hg5 hz5
                      go_wp2_with fail
                      go_roundw
                      case rel => exact ⟨i + 1, by omega, by go_num, HI5⟩
                      case measure => simp [intOf]; omega
                    · rw [show (decide (d.first + 1 ≤ d.last) && decide (d.last ≤ 4321440)) = false from by simp; omega]
                      have HNO : Hid (¬ coAt ds i) := hn'.out (by simp [limC]; omega)
                      go_wp2_with fail
                      go_ret2
                      exact HF.out _ (by omega) HNO.out
                  · rw [show (decide (0 ≤ d.first) && decide (d.first ≤ 4321439)) = false from by simp; omega]
                    have HNO : Hid (¬ coAt ds i) := hn'.out (by simp [limC]; omega)
                    go_wp2_with fail
                    go_ret2
                    exact HF.out _ (by omega) HNO.out
                · rw [show (decide (1 ≤ d.each) && decide (d.each ≤ 1000000)) = false from by simp; omega]
                  have HNO : Hid (¬ coAt ds i) := hn'.out (by simp [limC]; omega)
                  go_wp2_with fail
                  go_ret2
                  exact HF.out _ (by omega) HNO.out
              · rw [show (decide (1 ≤ d.most) && decide (d.most ≤ 1000000)) = false from by simp; omega]
                have HNO : Hid (¬ coAt ds i) := hn'.out (by simp [limC]; omega)
                go_wp2_with fail
                go_ret2
                exact HF.out _ (by omega) HNO.out
        · have hne : (q != 0) = true := by simpa using hq0
          have HF := Lib.hid (NBPost.bad (H := H) hq0 (hbad.out (fun h => hq0 (hno.out h).1)) HI2.out.bel)
          clear hq0
          go_wp2_with fail
          go_ret2
          exact HF.out
      · have hie : i = ds.length := by omega
        subst hie
        have HM := Lib.hid (hinv.out.map)
        rw [List.take_length] at HM
        have HF := Lib.hid (NBPost.good HH.out ⟨by omega, fun j hj => hinv.out.ok j hj hj⟩ hinv.out.bel hinv.out.book HM.out)
        go_wp2_with fail
        go_ret2
        exact HF.out
end Go.Proofs.YtecbejmeejepmaaDoor
