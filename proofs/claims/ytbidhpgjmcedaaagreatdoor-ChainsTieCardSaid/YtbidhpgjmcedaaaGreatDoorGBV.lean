/- Texts of this claim, put together: Joining, JoiningW. -/
import Derived.Test.YtbidhpgjmcedaaaGreatDoorGBR
import Derived.Test.YtbidhpgjmcedaaaGreatDoorGAW
/- The ids that join several touches. -/
namespace Go.Proofs.YtbidhpgjmcedaaaGreatDoor
set_option linter.unusedVariables false
open Go.RowKit
/-- The state in the loop over the map. -/
structure JoL (w3 : World) (bm rb nm : Nat) (m : Lit → Option Value) (ts : List TchD) (J : IdD → Bool) (left : Lit → Bool) (cnt : Nat) (zs : List IdD) (wr : World) : Prop where
  rg : Rg Tryz.prog 55 wr bm rb nm m left cnt
  bel : Below w3.heap.size w3 wr
  lft : ∀ l, WideAt.IsKeyLit l → left l = true → (m l).isSome = true
  nd : zs.Nodup
  mem : ∀ y ∈ zs, FitId y ∧ left (klId y) = false ∧ ∃ t ∈ ts, y ∈ t.ids
  spec : ∀ x, FitId x → posL ts x ≠ [] → J x = true → 2 ≤ (posL ts x).length → x ∈ zs ∨ left (klId x) = true
section
variable {w3 wr W' : World} {bm rb nm : Nat} {m : Lit → Option Value} {ts : List TchD} {J : IdD → Bool} {left : Lit → Bool} {cnt cnt' : Nat} {zs : List IdD}
theorem JoL.call (h : JoL w3 bm rb nm m ts J left cnt zs wr) (hb : Below wr.heap.size wr W') : JoL w3 bm rb nm m ts J left cnt zs W' := ⟨h.rg.below hb, h.bel.trans (hb.mono h.bel.size), h.lft, h.nd, h.mem, h.spec⟩
theorem JoL.len (h : JoL w3 bm rb nm m ts J left cnt zs wr) (hil : ∀ t ∈ ts, t.ids.length ≤ 20) : zs.length ≤ 20 * ts.length := by
  have h1 := nodup_le zs (ts.flatMap fun t => t.ids) h.nd (fun y hy => by
    obtain ⟨_, _, t, ht, hyt⟩ := h.mem y hy
    exact List.mem_flatMap.2 ⟨t, ht, hyt⟩)
  have h2 := flatMap_le (m := 20) (fun t : TchD => t.ids) ts hil
  omega
theorem left_at {x : IdD} (hx : FitId x) : (left (klId x) && !(klId x).sameKey (klId x)) = false := by
  rw [WideAt.sameKey_self (klKey hx)]
  simp
theorem left_off {x : IdD} (hx : FitId x) {y : IdD} (hy : FitId y) (e : y ≠ x) : (left (klId y) && !(klId y).sameKey (klId x)) = left (klId y) := by
  have : (klId y).sameKey (klId x) = false := by
    cases h : (klId y).sameKey (klId x) with
    | false => rfl
    | true => exact absurd (klId_inj hy hx (WideAt.sameKey_eq h)) e
  rw [this]
  simp
theorem JoL.skip (h : JoL w3 bm rb nm m ts J left cnt zs wr) {x : IdD} (hx : FitId x) (hno : ¬ (J x = true ∧ 2 ≤ (posL ts x).length)) (hrg : Rg Tryz.prog 55 W' bm rb nm m (fun z => left z && !z.sameKey (klId x)) cnt') (hb : Below w3.heap.size w3 W') : JoL w3 bm rb nm m ts J (fun z => left z && !z.sameKey (klId x)) cnt' zs W' := by
  refine ⟨hrg, hb, fun l h2 h3 => h.lft l h2 (by simp only [Bool.and_eq_true] at h3; exact h3.1), h.nd, fun y hy => ?_, fun y hy hp hJ h2 => ?_⟩
  · obtain ⟨h1, h2, h3⟩ := h.mem y hy
    exact ⟨h1, by simp only [h2, Bool.false_and], h3⟩
  · rcases h.spec y hy hp hJ h2 with h3 | h3
    · exact Or.inl h3
    · right
      show (left (klId y) && !(klId y).sameKey (klId x)) = true
      rw [left_off hx hy (fun e => hno (by rw [← e]; exact ⟨hJ, h2⟩))]
      exact h3
theorem JoL.take (h : JoL w3 bm rb nm m ts J left cnt zs wr) {x : IdD} (hx : FitId x) (hl : left (klId x) = true) (hm : ∃ t ∈ ts, x ∈ t.ids) (hrg : Rg Tryz.prog 55 W' bm rb nm m (fun z => left z && !z.sameKey (klId x)) cnt') (hb : Below w3.heap.size w3 W') : JoL w3 bm rb nm m ts J (fun z => left z && !z.sameKey (klId x)) cnt' (zs ++ [x]) W' := by
  have hnot : x ∉ zs := fun c => by have := (h.mem x c).2.1; rw [hl] at this; cases this
  refine ⟨hrg, hb, fun l h2 h3 => h.lft l h2 (by simp only [Bool.and_eq_true] at h3; exact h3.1), ?_, fun y hy => ?_, fun y hy hp hJ h2 => ?_⟩
  · rw [List.nodup_append]
    refine ⟨h.nd, by simp, fun a ha b hb => ?_⟩
    simp at hb
    subst hb
    intro e
    subst e
    exact hnot ha
  · rcases List.mem_append.1 hy with hy | hy
    · obtain ⟨h1, h2, h3⟩ := h.mem y hy
      exact ⟨h1, by simp only [h2, Bool.false_and], h3⟩
    · simp at hy
      subst hy
      refine ⟨hx, ?_, hm⟩
      show (left (klId y) && !(klId y).sameKey (klId y)) = false
      exact left_at hx
  · by_cases e : y = x
    · subst e; exact Or.inl (by simp)
    · rcases h.spec y hy hp hJ h2 with h3 | h3
      · exact Or.inl (List.mem_append_left _ h3)
      · right
        show (left (klId y) && !(klId y).sameKey (klId x)) = true
        rw [left_off hx hy e]
        exact h3
end
end Go.Proofs.YtbidhpgjmcedaaaGreatDoor

/- person.Joining. -/
namespace Go.Proofs.YtbidhpgjmcedaaaGreatDoor
set_option linter.unusedVariables false
open Go.RowKit
/-- What Joining hands back. -/
def JoinPost (r : RulD) (ts : List TchD) (w : World) (e : Ending) (w' : World) : Prop :=
  Below w.heap.size w w' ∧ ((bothE r ts ≠ 0 ∧ e = .returned (.tuple #[.slice none 0 0, .int .i64 (bothE r ts)])) ∨
    (bothE r ts = 0 ∧ ∃ (B : Nat) (v : Value) (zs : List IdD), e = .returned (.tuple #[v, .int .i64 0]) ∧ w.heap.size ≤ B ∧ Orow w' B 55 2 fId v zs ∧ SortI zs ∧ zs.length ≤ 40000 ∧ (∀ x ∈ zs, FitId x) ∧
      ∀ x, FitId x → posL ts x ≠ [] → JD r ts x = true → 2 ≤ (posL ts x).length → x ∈ zs))
set_option maxHeartbeats 4000000 in
set_option maxRecDepth 100000 in
theorem Joining_any (H : Frz) (hU : UtfIn H) (hM : MLen H) (r : RulD) (A : Option Addr) (cap : Nat) (ts : List TchD) (w : World) (hH : H.In w) (hR : RulIn H r) (hT : TchIn H A ts) (hz : SzR r) (hl : ts.length ≤ 1000000) (hsz : ∀ t ∈ ts, SzT t) (hfit : ∀ t ∈ ts, ∀ x ∈ t.ids, FitId x) :
    Calls Tryz.prog 53 #[.agg #[.slice r.ka r.kinds.length r.kc, .int .i64 r.most, .slice r.wa r.weaks.length r.wc, .slice r.sa r.surs.length r.sc], .slice A ts.length cap] w (JoinPost r ts w) := by
  obtain ⟨j0, hj9, hj0, hj1, hj2⟩ := info_parts (show (Tryz.prog.info? 55).map (fun i => (i.zero, i.size, i.bytes)) = some (some (.agg #[.int .i64 0, .string ⟨#[]⟩]), 2, 24) by kernel_rfl)
  have HJ0 := Lib.hid hj9
  clear hj9
  have z0 : (w.alloc (.cells #[.slice r.ka r.kinds.length r.kc, .int .i64 r.most, .slice r.wa r.weaks.length r.wc, .slice r.sa r.surs.length r.sc] 44)).cell? ⟨w.heap.size, 0, none⟩ = some (.slice r.ka r.kinds.length r.kc) := newc 0 rfl
  have z1 : (w.alloc (.cells #[.slice r.ka r.kinds.length r.kc, .int .i64 r.most, .slice r.wa r.weaks.length r.wc, .slice r.sa r.surs.length r.sc] 44)).cell? ⟨w.heap.size, 1, none⟩ = some (.int .i64 r.most) := newc 1 rfl
  have z2 : (w.alloc (.cells #[.slice r.ka r.kinds.length r.kc, .int .i64 r.most, .slice r.wa r.weaks.length r.wc, .slice r.sa r.surs.length r.sc] 44)).cell? ⟨w.heap.size, 2, none⟩ = some (.slice r.wa r.weaks.length r.wc) := newc 2 rfl
  have z3 : (w.alloc (.cells #[.slice r.ka r.kinds.length r.kc, .int .i64 r.most, .slice r.wa r.weaks.length r.wc, .slice r.sa r.surs.length r.sc] 44)).cell? ⟨w.heap.size, 3, none⟩ = some (.slice r.sa r.surs.length r.sc) := newc 3 rfl
  have HBN := Lib.hid (new1 (w := w) (.cells #[.slice r.ka r.kinds.length r.kc, .int .i64 r.most, .slice r.wa r.weaks.length r.wc, .slice r.sa r.surs.length r.sc] 44))
  have HIN := Lib.hid (hH.below HBN.out)
  have HCB := Lib.hid (fun W (hW : H.In W) => checkBoth_any H hU hM r A cap ts W hW hR hT hz hl hsz)
  have HR := Lib.hid hR
  have HT := Lib.hid hT
  have HF := Lib.hid hfit
  have HPP : Hid (∀ e w', Below w.heap.size w w' → ((bothE r ts ≠ 0 ∧ e = .returned (.tuple #[.slice none 0 0, .int .i64 (bothE r ts)])) ∨
    (bothE r ts = 0 ∧ ∃ (B : Nat) (v : Value) (zs : List IdD), e = .returned (.tuple #[v, .int .i64 0]) ∧ w.heap.size ≤ B ∧ Orow w' B 55 2 fId v zs ∧ SortI zs ∧ zs.length ≤ 40000 ∧ (∀ x ∈ zs, FitId x) ∧
      ∀ x, FitId x → posL ts x ≠ [] → JD r ts x = true → 2 ≤ (posL ts x).length → x ∈ zs)) → JoinPost r ts w e w') := fun e w' h1 h2 => ⟨h1, h2⟩
  have HRR : Hid (bothE r ts = 0 → RightR r ∧ ts.length ≤ 2000 ∧ ∀ t ∈ ts, RightT t) := fun h => ⟨(rul_right (both_zero h).1).1, (tchs_right (both_zero h).2).1, (tchs_right (both_zero h).2).2.1⟩
  clear hU hM hH hR hT hz hsz hfit
  go_enter Tryz.func53, Tryz.ntmps53
  go_wp2_with fail
  refine (HCB.out _ HIN.out).mono ?_
  rintro e W2 ⟨rfl, hb2⟩
  have HB2 := Lib.hid (HBN.out.trans (hb2.mono HBN.out.size))
  have HIN2 := Lib.hid (HIN.out.below hb2)
  have y0 := lift_cell z0 W2 hb2
  have y1 := lift_cell z1 W2 hb2
  have y2 := lift_cell z2 W2 hb2
  have y3 := lift_cell z3 W2 hb2
  clear hb2 z0 z1 z2 z3
  generalize bothE r ts = ie at HPP HRR ⊢
  by_cases g : ie = 0
  · have k3 : (ie != 0) = false := by simpa using g
    obtain ⟨hr, hl2, ht2⟩ := HRR.out g
    have HG := Lib.hid g
    have HNG := Lib.hid (newGroup_any H r A cap ts W2 HIN2.out HT.out (by omega) (fun t ht => ⟨by have := (ht2 t ht).len; omega, HF.out t ht, rising_ne (ht2 t ht).ids⟩))
    have HLN : Hid (∀ t ∈ ts, t.ids.length ≤ 20) := fun t ht => by have := (ht2 t ht).len; omega
    have HRI := Lib.hid hr
    clear g HRR hr ht2
    go_wp2_with fail
    refine HNG.out.mono ?_
    rintro e W3 ⟨gp, bm, nm, m, rfl, hS, hgo, hgp⟩
    have HB3 := Lib.hid (HB2.out.trans (hS.bel.mono HB2.out.size))
    obtain ⟨hle, hG⟩ := GrpIn.of hS hgo HIN2.out HR.out HT.out
    have HJA := Lib.hid (fun x hx W hW => joins_any hG (HRI.out.ws).sort (by have := HRI.out.wl; omega) (by have := HRI.out.kl; omega) x hx W hW)
    have p5 : W3.cell? ⟨gp, 5, none⟩ = some (.map (some bm)) := cell_h hgo 5 rfl
    have HMP := Lib.hid (hG.map W3 (wholeH_in W3))
    have HGR := Lib.hid hG
    have HLB : Hid (bm < W3.heap.size) := by
      obtain ⟨o, ho⟩ := hG.blk
      exact lt_of_heap ((wholeH_in W3) bm o ho)
    have HHI := Lib.hid (fun W (hW : Below W3.heap.size W3 W) => (wholeH_in W3).below hW)
    have JL0 : Hid (∀ (w4 : World) (left0 : Lit → Bool) (cnt0 : Nat), (∀ l, WideAt.IsKeyLit l → left0 l = (m l).isSome) → Rg Tryz.prog 55 w4 bm W3.heap.size nm m left0 cnt0 → W3.grownBy w4 none → JoL W3 bm W3.heap.size nm m ts (JD r ts) left0 cnt0 [] w4) := by
      intro w4 left0 cnt0 h1 h2 h3
      refine ⟨h2, ⟨h3.os, h3.tape, h3.output, h3.size, fun q hq => h3.block q hq (by simp)⟩, fun l hl e => by rw [← h1 l hl]; exact e, List.nodup_nil, by simp, fun x hx hp _ _ => Or.inr ?_⟩
      obtain ⟨B, c, e, _⟩ := HGR.out.some_ x hx hp
      rw [h1 _ (klKey hx), e]
      rfl
    clear hS hgo hle hG HNG y0 y1 y2 y3
    go_wp2_with (at_range; refine wpList_range_mp _ rfl _ _ rfl _ _ idKeyed Tryz.underlying150 bm nm m rfl HMP.out ?_; intro w4 left0 cnt0 hlf hrg hgr hsz4; have M0 := Lib.hid (JL0.out w4 left0 cnt0 hlf hrg hgr); have HRB := Lib.hid hsz4; clear hlf hrg hgr hsz4 JL0 HMP)
    go_frame
    clear p5
    have HO0 : Hid (Orow w4 w4.heap.size 55 2 fId (.slice none 0 0) ([] : List IdD)) := Orow.nil _ _ _ _ _
    have HBZ : Hid (w.heap.size ≤ W3.heap.size ∧ W3.heap.size < w4.heap.size) := ⟨HB3.out.size, by have := HRB.out; omega⟩
    obtain ⟨bs, hbs⟩ : ∃ bs, bs = w4.heap.size := ⟨_, rfl⟩
    have HBS : Hid (bs ≤ w4.heap.size) := Nat.le_of_eq hbs
    rw [← hbs] at HO0 HBZ
    clear HRB hbs
    go_loopw [8] (fun t wr => ∃ (va : Option Addr) (vc : Nat) (zs : List IdD) (left : Lit → Bool) (cnt : Nat), t = .slice va zs.length vc ∧ Hid (JoL W3 bm W3.heap.size nm m ts (JD r ts) left cnt zs wr) ∧ Hid (Orow wr bs 55 2 fId (.slice va zs.length vc) zs) ∧ Hid (bs ≤ wr.heap.size)) (fun _ wr => wr.rangeLeft bm W3.heap.size)
    case atStart => exact ⟨none, 0, [], left0, cnt0, rfl, M0, HO0, HBS⟩
    case round =>
      obtain ⟨va, vc, zs, left, cnt, rfl, M, HO, HS⟩ := hrel
      clear M0 HO0 HBS
      have hzl := M.out.len HLN.out
      go_wp2_with (at_next; refine wpList_next_mp (α := {x : IdD // FitId x}) _ rfl _ rfl _ idKeyed (fun x => .agg #[.int .i64 x.1.kind, .string x.1.text]) bm W3.heap.size nm m left cnt rfl M.out.rg (fun l h1 h2 => ?_) ?_ ?_)
      · obtain ⟨x, hx, e, _⟩ := HGR.out.keys l (M.out.lft l h2 h1)
        exact ⟨⟨x, hx⟩, by rw [e]; exact keyId hx⟩
      · intro hc0 hl0
        have HSF := Lib.hid (sortFunc_Id idCmp idCmp_ok 36 #[] (fun _ _ => by kernel_rfl) (fun W a b => compareIds_g a b W) bs (.slice va zs.length vc) zs wr HO.out (by omega))
        have HALL : Hid (∀ x, FitId x → posL ts x ≠ [] → JD r ts x = true → 2 ≤ (posL ts x).length → x ∈ zs) := fun x hx hp hj h2 => (M.out.spec x hx hp hj h2).elim id (fun h => by rw [hl0] at h; cases h)
        have HFZ : Hid (∀ x ∈ zs, FitId x) := fun x hx => (M.out.mem x hx).1
        have HBM := Lib.hid (HB3.out.trans (M.out.bel.mono HB3.out.size))
        have HOL : Hid (∀ q, (Value.slice va zs.length vc).ownBlock = some q → bs ≤ q ∧ q < wr.heap.size) := fun q hq => HO.out.lt hq
        clear M HO
        go_wp2_with fail
        refine HSF.out.mono ?_
        rintro e W12 ⟨rfl, ws', hperm, hsrt, ho12, hg12⟩
        have HE := Lib.hid (HPP.out (.returned (.tuple #[.slice va zs.length vc, .int .i64 0])) W12 (Below.mk9 HBM.out hg12 (fun q hq => Nat.le_trans HBZ.out.1 (Nat.le_trans (Nat.le_of_lt HBZ.out.2) (HOL.out q hq).1))) (Or.inr ⟨HG.out, bs, _, ws', rfl, (Nat.le_trans HBZ.out.1 (Nat.le_of_lt HBZ.out.2)), ho12, hsrt, by rw [hperm.length_eq]; omega, fun x hx => HFZ.out x (hperm.mem_iff.1 hx), fun x hx hp hj h2 => hperm.mem_iff.2 (HALL.out x hx hp hj h2)⟩))
        clear hperm hsrt ho12 hg12 HSF
        go_wp2_with fail
        exact bodyPost_ret (by kernel_rfl) rfl HE.out
      · intro x hx c kl w5 cnt5 hkl hlx hmc hrg5 hlt5 hg5 hs5 hen
        obtain rfl : klId x = kl := Option.some.inj ((keyId hx).symm.trans hkl)
        have hp : posL ts x ≠ [] := fun e => by rw [HGR.out.none_ x hx e] at hmc; cases hmc
        obtain ⟨PB, pc, he, hR5, hpc⟩ := HGR.out.some_ x hx hp
        obtain rfl : .slice PB (posL ts x).length pc = c := Option.some.inj (he.symm.trans hmc)
        have HX := Lib.hid hx
        have HP := Lib.hid hp
        have HLX := Lib.hid hlx
        have HCN : Hid (cnt5 < cnt ∧ wr.rangeLeft bm W3.heap.size = cnt) := ⟨hlt5, M.out.rg.left_eq⟩
        have HRG := Lib.hid hrg5
        have hb5 : Below W3.heap.size W3 w5 := Below.mk9 M.out.bel hg5 (fun q hq => by injection hq with hq; omega)
        have HB5 := Lib.hid hb5
        have HO5 : Hid (Orow w5 bs 55 2 fId (.slice va zs.length vc) zs) := HO.out.far hg5 HBZ.out.2
        have HS5 : Hid (bs ≤ w5.heap.size) := by have := HS.out; show _ ≤ _; omega
        clear hkl hlx hmc hrg5 hlt5 hg5 hs5 hR5 hp he hb5 HO HS
        have z0 : (w5.alloc (.cells #[.int .i64 x.kind, .string x.text] 55)).cell? ⟨w5.heap.size, 0, none⟩ = some (.int .i64 x.kind) := newc 0 rfl
        have z1 : (w5.alloc (.cells #[.int .i64 x.kind, .string x.text] 55)).cell? ⟨w5.heap.size, 1, none⟩ = some (.string x.text) := newc 1 rfl
        have HN5 := Lib.hid (new1 (w := w5) (.cells #[.int .i64 x.kind, .string x.text] 55))
        have HXB := Lib.hid (heap_alloc_new w5 (.cells #[.int .i64 x.kind, .string x.text] 55))
        have HB6 := Lib.hid (HB5.out.trans (HN5.out.mono HB5.out.size))
        have HO6 := Lib.hid (HO5.out.below HN5.out)
        have HRG6 := Lib.hid (HRG.out.below HN5.out)
        have HS6 : Hid (bs ≤ (w5.alloc (.cells #[.int .i64 x.kind, .string x.text] 55)).heap.size) := Nat.le_trans HS5.out HN5.out.size
        clear HB5 HO5 HRG HS5 HN5
        go_upto_region 9 with (fail)
        clear hen
        generalize w5.alloc (.cells #[.int .i64 x.kind, .string x.text] 55) = W6 at *
        generalize w5.heap.size = xb at *
        have HJC := Lib.hid (HJA.out x HX.out W6 (HHI.out W6 HB6.out))
        generalize hjv : joinsD r.kinds r.most r.weaks ts x = jv at HJC
        have HJV : Hid (JD r ts x = jv) := hjv
        clear hjv
        have HSKIP : Hid (∀ W', Below W6.heap.size W6 W' → ¬ (JD r ts x = true ∧ 2 ≤ (posL ts x).length) → Hid (JoL W3 bm W3.heap.size nm m ts (JD r ts) (fun z => left z && !z.sameKey (klId x)) cnt5 zs W')) := fun W' hW hno => M.out.skip HX.out hno (HRG6.out.below hW) (HB6.out.trans (hW.mono HB6.out.size))
        have HMEM : Hid (∃ t ∈ ts, x ∈ t.ids) := by
          obtain ⟨z, hz⟩ := List.exists_mem_of_ne_nil _ HP.out
          obtain ⟨q, e, h1, h2⟩ := mem_posN.1 hz
          obtain ⟨h3, h4⟩ := h2
          exact ⟨ts[q], List.getElem_mem h3, hasId_iff.1 h4⟩
        have HTAKE : Hid (∀ W', Rg Tryz.prog 55 W' bm W3.heap.size nm m (fun z => left z && !z.sameKey (klId x)) cnt5 → Below W3.heap.size W3 W' → Hid (JoL W3 bm W3.heap.size nm m ts (JD r ts) (fun z => left z && !z.sameKey (klId x)) cnt5 (zs ++ [x]) W')) := fun W' h1 h2 => M.out.take HX.out HLX.out HMEM.out h1 h2
        have hpl : (posL ts x).length ≤ 2000 := by have := posN_le ts x ts.length; unfold posL; omega
        clear hx M
        by_cases g2 : 2 ≤ (posL ts x).length
        · have kk : decide ((2 : Int) ≤ ((posL ts x).length : Int)) = true := by simp; omega
          have kk2 : (2 : Int) ≤ ((posL ts x).length : Int) := by omega
          have HG2 := Lib.hid g2
          clear g2
          go_wp2_with fail
          refine HJC.out.mono ?_
          rintro e W7 ⟨rfl, hb7⟩
          have HB7 := Lib.hid hb7
          have HX7 := Lib.hid ((hb7.block xb (lt_of_heap HXB.out)).trans HXB.out)
          clear hb7 HJC z0 z1
          have x0 := cell_h HX7.out 0 (v := .int .i64 x.kind) rfl
          have x1 := cell_h HX7.out 1 (v := .string x.text) rfl
          cases jv with
          | false =>
            have M8 := HSKIP.out W7 HB7.out (fun c => by rw [HJV.out] at c; cases c.1)
            have HO8 := Lib.hid (HO6.out.below HB7.out)
            have HS8 : Hid (bs ≤ W7.heap.size) := Nat.le_trans HS6.out HB7.out.size
            clear HSKIP HTAKE HB7
            go_wp2_with fail
            exact ⟨⟨va, vc, zs, _, _, rfl, M8, HO8, HS8⟩, by rw [M8.out.rg.left_eq, HCN.out.2]; exact HCN.out.1⟩
          | true =>
            have HO8 := Lib.hid (HO6.out.below HB7.out)
            have hB9 : bs ≤ W7.heap.size := Nat.le_trans HS6.out HB7.out.size
            go_wp2_with (at_builtin; refine wpList_app_at rfl _ _ 41 rfl bs 55 j0 (.agg #[.int .i64 0, .string ⟨#[]⟩]) 2 24 Tryz.underlying41 HJ0.out hj0 hj1 hj2 rfl (by decide) fId _ zs rfl HO8.out x #[.int .i64 x.kind, .string x.text] 55 rfl rfl (by simp [Value.oneCell']) (by omega) (by omega) hB9 ?_; intro v1 w9 o1 g1 b1 at1; have HO9 := Lib.hid o1; have HGW := Lib.hid g1; have HBW := Lib.hid b1; clear o1 g1 b1 at1)
            have HRG9 : Rg Tryz.prog 55 w9 bm W3.heap.size nm m (fun z => left z && !z.sameKey (klId x)) cnt5 := (HRG6.out.below HB7.out).kept HGW.out (fun c => by
              have h1 := (HO8.out.lt c.symm).1
              have h2 := HBZ.out.2
              have h3 := HLB.out
              omega) (fun c => by
              have h1 := (HO8.out.lt c.symm).1
              have h2 := HBZ.out.2
              omega)
            have HB9 : Below W3.heap.size W3 w9 := (HB6.out.trans (HB7.out.mono HB6.out.size)).trans (HBW.out.mono (Nat.le_of_lt HBZ.out.2))
            have M9 := HTAKE.out w9 HRG9 HB9
            have HS9 : Hid (bs ≤ w9.heap.size) := Nat.le_trans hB9 HBW.out.size
            obtain ⟨A9, c9, e9, _⟩ := HO9.out.slice
            subst e9
            exact ⟨⟨A9, c9, zs ++ [x], _, _, rfl, M9, HO9, HS9⟩, by rw [M9.out.rg.left_eq, HCN.out.2]; exact HCN.out.1⟩
        · have kk : decide ((2 : Int) ≤ ((posL ts x).length : Int)) = false := by simp; omega
          have kk2 : ¬ (2 : Int) ≤ ((posL ts x).length : Int) := by omega
          have M8 := HSKIP.out W6 (Below.refl _ _) (fun c => g2 c.2)
          clear g2 HSKIP HTAKE
          go_wp2_with fail
          exact ⟨⟨va, vc, zs, _, _, rfl, M8, HO6, HS6⟩, by rw [M8.out.rg.left_eq, HCN.out.2]; exact HCN.out.1⟩
  · have k3 : (ie != 0) = true := by simpa using g
    have HF5 := Lib.hid (HPP.out _ W2 HB2.out (Or.inl ⟨g, rfl⟩))
    clear g
    go_wp2_with fail
    exact bodyPost_ret (by kernel_rfl) rfl HF5.out
end Go.Proofs.YtbidhpgjmcedaaaGreatDoor
