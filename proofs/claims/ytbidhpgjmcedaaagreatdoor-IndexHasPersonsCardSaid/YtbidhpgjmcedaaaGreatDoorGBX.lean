/- Texts of this claim, put together: Differ, Become, CloneTch, InsTch, DelTch. -/
import Derived.Test.YtbidhpgjmcedaaaGreatDoorGBW
import Derived.Test.YtbidhpgjmcedaaaGreatDoorGBL
import Derived.Test.YtbidhpgjmcedaaaGreatDoorGAW
import Derived.Test.YtbidhpgjmcedaaaGreatDoorGBP
import Derived.Test.YtbidhpgjmcedaaaGreatDoorGAH
import Derived.Test.YtbidhpgjmcedaaaGreatDoorGAC
import Derived.StillTailTactics
import Derived.Deep.Cut
import Derived.Test.YtbidhpgjmcedaaaGreatDoorGBS
import Derived.Test.YtbidhpgjmcedaaaGreatDoorGAE
import Derived.Lib.Overlaps
import Derived.Lib.AppendZerosOnto
import Derived.Laws.Externs
import Derived.Test.YtbidhpgjmcedaaaGreatDoorGAS
namespace Go.Proofs.YtbidhpgjmcedaaaGreatDoor
set_option linter.unusedVariables false
open Go.RowKit
theorem Rg.cnt_le {P : Program} {k : TypeId} {w : World} {b r n : Nat} {m : Lit → Option Value} {left : Lit → Bool} {cnt : Nat} (h : Rg P k w b r n m left cnt) : cnt ≤ n := by
 obtain ⟨D, ⟨es, clock, since, seen, c0, h1, h2, h3, h4, h5, h6, h7, h8⟩, hd⟩ := h
 rw [← h7]
 refine Nat.le_trans ?_ h3
 unfold leftOf
 exact Array.size_filter_le
theorem Below.mk8 {w W W' : World} {row : Option Nat} (h : Below w.heap.size w W) (g : W.grownBy W' row) (hr : ∀ b, row = some b → w.heap.size ≤ b) : Below w.heap.size w W' :=
 ⟨g.os.trans h.os, g.tape.trans h.tape, g.output.trans h.output, Nat.le_trans h.size g.size, fun k hk => (g.block k (Nat.lt_of_lt_of_le hk h.size) (fun e => by have := hr k e.symm; omega)).trans (h.block k hk)⟩
structure DfL (W0 : World) (mb rp n : Nat) (m : Lit → Option Value) (bs : Nat) (left : Lit → Bool) (cnt : Nat) (ds : List ShD) (v : Value) (wr : World) : Prop where
 rg : Rg Tryz.prog 3 wr mb rp n m left cnt
 bel : Below W0.heap.size W0 wr
 lft : ∀ l, WideAt.IsKeyLit l → left l = true → (m l).isSome = true
 row : Orow wr bs 293 5 fSh v ds
 len : ds.length + cnt ≤ n
 ge : W0.heap.size ≤ mb ∧ mb < bs ∧ rp < bs ∧ W0.heap.size ≤ rp ∧ bs ≤ wr.heap.size
section
variable {W0 wr w' : World} {mb rp n bs cnt cnt' : Nat} {m : Lit → Option Value} {left left' : Lit → Bool} {ds : List ShD} {v v' : Value}
theorem DfL.call (h : DfL W0 mb rp n m bs left cnt ds v wr) (hb : Below wr.heap.size wr w') : DfL W0 mb rp n m bs left cnt ds v w' :=
 ⟨h.rg.below hb, h.bel.trans (hb.mono h.bel.size), h.lft, h.row.below hb, h.len, h.ge.1, h.ge.2.1, h.ge.2.2.1, h.ge.2.2.2.1, Nat.le_trans h.ge.2.2.2.2 hb.size⟩
theorem DfL.next (h : DfL W0 mb rp n m bs left cnt ds v wr) {kl : Lit} (hr : Rg Tryz.prog 3 w' mb rp n m (fun q => left q && !q.sameKey kl) cnt') (hg : wr.grownBy w' (some rp)) (hlt : cnt' < cnt) : DfL W0 mb rp n m bs (fun q => left q && !q.sameKey kl) cnt' ds v w' :=
 ⟨hr, Below.mk8 h.bel hg (fun b e => by injection e with e; have := h.ge; omega), fun l h1 h2 => h.lft l h1 (by simp only [Bool.and_eq_true] at h2; exact h2.1), h.row.far hg h.ge.2.2.1, by have := h.len; omega, h.ge.1, h.ge.2.1, h.ge.2.2.1, h.ge.2.2.2.1, Nat.le_trans h.ge.2.2.2.2 hg.size⟩
theorem DfL.take {c0 : Nat} (h : DfL W0 mb rp n m bs left cnt ds v wr) (hlt : cnt < c0) (hg : wr.grownBy w' v.ownBlock) {d : ShD} (ho : Orow w' bs 293 5 fSh v' (ds ++ [d])) (hl : ds.length + c0 ≤ n) : DfL W0 mb rp n m bs left cnt (ds ++ [d]) v' w' := by
 refine ⟨h.rg.kept hg (fun c => ?_) (fun c => ?_), Below.mk8 h.bel hg (fun b e => by have h1 := (h.row.lt e).1; have := h.ge; omega), h.lft, ho, by rw [List.length_append]; simp only [List.length_cons, List.length_nil]; omega, h.ge.1, h.ge.2.1, h.ge.2.2.1, h.ge.2.2.2.1, Nat.le_trans h.ge.2.2.2.2 hg.size⟩
 ·have h1 := (h.row.lt c.symm).1
  have := h.ge
  omega
 ·have h1 := (h.row.lt c.symm).1
  have := h.ge
  omega
end
set_option maxHeartbeats 4000000 in
set_option maxRecDepth 100000 in
theorem differ_any (H : Frz) (A B : Option Addr) (ca cb : Nat) (ps qs : List PerD) (w : World) (hH : H.In w) (hA : PerIn H A ps) (hB : PerIn H B qs) (la : ps.length ≤ 1000) (lb : qs.length ≤ 1000) (na : ∀ p ∈ ps, p.nos.length ≤ 100 ∧ ∀ z ∈ p.nos, 0 ≤ z ∧ z ≤ 1000000) (nb : ∀ p ∈ qs, p.nos.length ≤ 100 ∧ ∀ z ∈ p.nos, 0 ≤ z ∧ z ≤ 1000000) :
  Calls Tryz.prog 196 #[.slice A ps.length ca, .slice B qs.length cb] w fun e w' => (∃ A' n c, e = .returned (.slice A' n c)) ∧ Below w.heap.size w w' := by
 obtain ⟨j0, hj9, hj0, hj1, hj2⟩ := info_parts (show (Tryz.prog.info? 293).map (fun i => (i.zero, i.size, i.bytes)) = some (some (.agg #[.int .i64 0, .int .i64 0, .string ⟨#[]⟩, .int .i64 0, .string ⟨#[]⟩]), 5, 56) by kernel_rfl)
 have HJ0 := Lib.hid hj9
 have HH := Lib.hid hH
 have HA := Lib.hid hA
 have HB := Lib.hid hB
 have Hps := Lib.hid na
 have Hqs := Lib.hid nb
 have HS0 : Hid (ShS w w.heap.size 0 mpNew (w.alloc (.map #[] 0))) := ⟨new1 _, Mp.made _ _ _, Nat.le_refl _, fun l v h => (by cases h), fun l h => (by cases h)⟩
 have hmm := @run_makeMap Tryz.prog
 clear hj9 hH hA hB na nb
 go_enter Tryz.func196, Tryz.ntmps196
 go_upto_region 2 with (fail)
 generalize w.alloc (.map #[] 0) = W1 at *
 obtain ⟨mb, hmb⟩ : ∃ mb, mb = w.heap.size := ⟨_, rfl⟩
 rw [← hmb] at HS0 ⊢
 have HMB := Lib.hid hmb
 clear hmb hmm
 go_wp2_with fail
 go_loopw [20] (fun t wr => ∃ (i n : Nat) (m : Lit → Option Value), i ≤ ps.length ∧ t = .int .i64 i ∧ Hid (n ≤ 0 + i * 100) ∧ Hid (ShS w mb n m wr)) (fun t _ => ps.length - (intOf t).toNat)
 case atStart => exact ⟨0, 0, mpNew, by omega, rfl, Nat.zero_le _, HS0⟩
 case round =>
  obtain ⟨i, n, m, hi, rfl, HN, HS⟩ := hrel
  clear HS0
  by_cases hlt : i < ps.length
  ·obtain ⟨b, off, hA, hbl, hc⟩ := HA.out.1.at_ (HH.out.below HS.out.bel) hlt (by omega)
   have c0 : wr.cell? ⟨b, off + i * 4, none⟩ = some (.int .i64 ps[i].key.kind) := hc 0 (by omega)
   have c1 : wr.cell? ⟨b, off + i * 4 + 1, none⟩ = some (.string ps[i].key.text) := hc 1 (by omega)
   have c2 : wr.cell? ⟨b, off + i * 4 + 2, none⟩ = some (.slice ps[i].na ps[i].nos.length ps[i].nc) := hc 2 (by omega)
   have c3 : wr.cell? ⟨b, off + i * 4 + 3, none⟩ = some (.slice ps[i].ia ps[i].ids.length ps[i].ic) := hc 3 (by omega)
   have HNR := Lib.hid (HA.out.2 _ (List.getElem_mem hlt)).1
   have HNL := Lib.hid (Hps.out _ (List.getElem_mem hlt))
   subst hA
   clear hc hbl
   generalize ps[i] = p at *
   obtain ⟨key, na, nc, nos, ia, ic, ids⟩ := p
   dsimp only at *
   have hn1 := new1 (w := wr) (.cells #[.int .i64 key.kind, .string key.text, .slice na nos.length nc, .slice ia ids.length ic] 64)
   have HS1 := Lib.hid (HS.out.call hn1)
   have HTB := Lib.hid (heap_alloc_new wr (.cells #[.int .i64 key.kind, .string key.text, .slice na nos.length nc, .slice ia ids.length ic] 64))
   have hnl := HNL.out.1
   clear hn1 HS
   go_upto_region 5 with (fail)
   clear c0 c1 c2 c3
   generalize wr.alloc (.cells #[.int .i64 key.kind, .string key.text, .slice na nos.length nc, .slice ia ids.length ic] 64) = W2 at *
   generalize wr.heap.size = tb at *
   have t2 := cell_h HTB.out 2 (v := .slice na nos.length nc) rfl
   go_wp2_with fail
   clear t2
   go_loopw [27] (fun t wq => ∃ (j n : Nat) (m : Lit → Option Value), j ≤ nos.length ∧ t = .int .i64 j ∧ Hid (n ≤ 0 + i * 100 + j) ∧ Hid (ShS w mb n m wq) ∧ Hid (wq.heap[tb]? = some (.cells #[.int .i64 key.kind, .string key.text, .slice na nos.length nc, .slice ia ids.length ic] 64 (0, 0)))) (fun t _ => nos.length - (intOf t).toNat)
   case atStart => exact ⟨0, n, m, by omega, rfl, HN, HS1, HTB⟩
   case round =>
    obtain ⟨j, n, m, hj, rfl, HN, HS, HT⟩ := hrel
    clear HS1 HTB
    by_cases hjt : j < nos.length
    ·obtain ⟨b2, off2, hA2, hbl2, hc2⟩ := HNR.out.at_ (HH.out.below HS.out.bel) hjt (by omega)
     have cz : wr.cell? ⟨b2, off2 + j, none⟩ = some (.int .i64 nos[j]) := by have h : wr.cell? ⟨b2, off2 + j * 1 + 0, none⟩ = some (.int .i64 nos[j]) := hc2 0 (by omega); simpa using h
     have HZ := Lib.hid (HNL.out.2 _ (List.getElem_mem hjt))
     subst hA2
     clear hc2 hbl2
     generalize nos[j] = z at *
     have t0 := cell_h HT.out 0 (v := .int .i64 key.kind) rfl
     have t1 := cell_h HT.out 1 (v := .string key.text) rfl
     have HKY := Lib.hid (keyInt HZ.out.1 HZ.out.2)
     have HCL : Hid (n < maxLen) := by have := HN.out; show _ < _; unfold maxLen; omega
     have HMP := Lib.hid HS.out.mp
     have HTW : Hid (∀ w', wr.grownBy w' (some mb) → w'.heap[tb]? = some (.cells #[.int .i64 key.kind, .string key.text, .slice (some ⟨b2, off2, none⟩) nos.length nc, .slice ia ids.length ic] 64 (0, 0))) := fun w' hg => (hg.block tb (lt_of_heap HT.out) (by
      intro c
      injection c with c
      subst c
      exact HMP.out.ne_cells HT.out rfl)).trans HT.out
     have HPT : Hid (∀ w', Mp Tryz.prog 3 w' mb (n + 1) (mpSet m (.int .i64 z) (shV ⟨z, key, zeroId⟩)) → wr.grownBy w' (some mb) → ShS w mb (n + 1) (mpSet m (.int .i64 z) (shV ⟨z, key, zeroId⟩)) w') := fun w' h1 h2 => HS.out.put HZ.out.1 HZ.out.2 _ h1 h2
     clear HS HT
     go_wp2_with (at_mapUpdate; refine wpList_mp_set _ rfl _ _ _ 291 rfl 3 293 intKeyed Tryz.underlying291 mb n m rfl HMP.out HCL.out _ (shV ⟨z, key, zeroId⟩) _ rfl rfl HKY.out ?_; intro w5 hM5 hg5 hz5; have HS5 := Lib.hid (HPT.out w5 hM5 hg5); have HT5 := Lib.hid (HTW.out w5 hg5); clear hM5 hg5 hz5)
     go_roundw
     case rel => exact ⟨j + 1, n + 1, _, by omega, by go_num, (by have := HN.out; show _ ≤ _; omega), HS5, HT5⟩
     case measure => simp [intOf]; omega
    ·have hje : j = nos.length := by omega
     subst hje
     clear HT
     go_wp2_with fail
     go_roundw
     case rel => exact ⟨i + 1, n, m, by omega, by go_num, (by have := HN.out; show _ ≤ _; omega), HS⟩
     case measure => simp [intOf]; omega
  ·have hie : i = ps.length := by omega
   subst hie
   have HN0 : Hid (n ≤ 100000) := by have := HN.out; show _ ≤ _; omega
   clear HN
   have HS0 := HS
   clear HS
   go_wp2_with fail
   go_loopw [41] (fun t wr => ∃ (i n : Nat) (m : Lit → Option Value), i ≤ qs.length ∧ t = .int .i64 i ∧ Hid (n ≤ 100000 + i * 100) ∧ Hid (ShS w mb n m wr)) (fun t _ => qs.length - (intOf t).toNat)
   case atStart => exact ⟨0, n, m, by omega, rfl, HN0, HS0⟩
   case round =>
    obtain ⟨i, n, m, hi, rfl, HN, HS⟩ := hrel
    clear HS0 HN0
    by_cases hlt : i < qs.length
    ·obtain ⟨b, off, hA, hbl, hc⟩ := HB.out.1.at_ (HH.out.below HS.out.bel) hlt (by omega)
     have c0 : wr.cell? ⟨b, off + i * 4, none⟩ = some (.int .i64 qs[i].key.kind) := hc 0 (by omega)
     have c1 : wr.cell? ⟨b, off + i * 4 + 1, none⟩ = some (.string qs[i].key.text) := hc 1 (by omega)
     have c2 : wr.cell? ⟨b, off + i * 4 + 2, none⟩ = some (.slice qs[i].na qs[i].nos.length qs[i].nc) := hc 2 (by omega)
     have c3 : wr.cell? ⟨b, off + i * 4 + 3, none⟩ = some (.slice qs[i].ia qs[i].ids.length qs[i].ic) := hc 3 (by omega)
     have HNR := Lib.hid (HB.out.2 _ (List.getElem_mem hlt)).1
     have HNL := Lib.hid (Hqs.out _ (List.getElem_mem hlt))
     subst hA
     clear hc hbl
     generalize qs[i] = p at *
     obtain ⟨key, na, nc, nos, ia, ic, ids⟩ := p
     dsimp only at *
     have hn1 := new1 (w := wr) (.cells #[.int .i64 key.kind, .string key.text, .slice na nos.length nc, .slice ia ids.length ic] 64)
     have HS1 := Lib.hid (HS.out.call hn1)
     have HTB := Lib.hid (heap_alloc_new wr (.cells #[.int .i64 key.kind, .string key.text, .slice na nos.length nc, .slice ia ids.length ic] 64))
     have hnl := HNL.out.1
     clear hn1 HS
     go_upto_region 14 with (fail)
     clear c0 c1 c2 c3
     generalize wr.alloc (.cells #[.int .i64 key.kind, .string key.text, .slice na nos.length nc, .slice ia ids.length ic] 64) = W2 at *
     generalize wr.heap.size = tb at *
     have t2 := cell_h HTB.out 2 (v := .slice na nos.length nc) rfl
     go_wp2_with fail
     clear t2
     go_loopw [48] (fun t wq => ∃ (j n : Nat) (m : Lit → Option Value), j ≤ nos.length ∧ t = .int .i64 j ∧ Hid (n ≤ 100000 + i * 100 + j) ∧ Hid (ShS w mb n m wq) ∧ Hid (wq.heap[tb]? = some (.cells #[.int .i64 key.kind, .string key.text, .slice na nos.length nc, .slice ia ids.length ic] 64 (0, 0)))) (fun t _ => nos.length - (intOf t).toNat)
     case atStart => exact ⟨0, n, m, by omega, rfl, HN, HS1, HTB⟩
     case round =>
      obtain ⟨j, n, m, hj, rfl, HN, HS, HT⟩ := hrel
      clear HS1 HTB
      by_cases hjt : j < nos.length
      ·obtain ⟨b2, off2, hA2, hbl2, hc2⟩ := HNR.out.at_ (HH.out.below HS.out.bel) hjt (by omega)
       have cz : wr.cell? ⟨b2, off2 + j, none⟩ = some (.int .i64 nos[j]) := by have h : wr.cell? ⟨b2, off2 + j * 1 + 0, none⟩ = some (.int .i64 nos[j]) := hc2 0 (by omega); simpa using h
       have HZ := Lib.hid (HNL.out.2 _ (List.getElem_mem hjt))
       subst hA2
       clear hc2 hbl2
       generalize nos[j] = z at *
       have t0 := cell_h HT.out 0 (v := .int .i64 key.kind) rfl
       have t1 := cell_h HT.out 1 (v := .string key.text) rfl
       have HKY := Lib.hid (keyInt HZ.out.1 HZ.out.2)
       have HCL : Hid (n < maxLen) := by have := HN.out; show _ < _; unfold maxLen; omega
       have HMP := Lib.hid HS.out.mp
       have HTW : Hid (∀ w', wr.grownBy w' (some mb) → w'.heap[tb]? = some (.cells #[.int .i64 key.kind, .string key.text, .slice (some ⟨b2, off2, none⟩) nos.length nc, .slice ia ids.length ic] 64 (0, 0))) := fun w' hg => (hg.block tb (lt_of_heap HT.out) (by
        intro c
        injection c with c
        subst c
        exact HMP.out.ne_cells HT.out rfl)).trans HT.out
       obtain ⟨d0, hd0⟩ : ∃ d0 : ShD, (m (.int .i64 z)).getD (shV ⟨0, zeroId, zeroId⟩) = shV d0 := by
        cases e : m (.int .i64 z) with
        | none => exact ⟨_, rfl⟩
        | some v => obtain ⟨d, rfl⟩ := HS.out.vals _ _ e; exact ⟨d, rfl⟩
       have hlk := HMP.out.look intKeyed Tryz.underlying291 (z := shV ⟨0, zeroId, zeroId⟩) (by kernel_rfl) HKY.out false
       rw [hd0] at hlk
       replace hlk : (Instr.lookup 291 (.map (some mb)) (.int .i64 z) false).run Tryz.prog wr = .ok (.agg #[.int .i64 d0.no, .int .i64 d0.fr.kind, .string d0.fr.text, .int .i64 d0.tt.kind, .string d0.tt.text]) wr := hlk
       have hf0 : ∀ W, (Instr.field 293 (.agg #[.int .i64 d0.no, .int .i64 d0.fr.kind, .string d0.fr.text, .int .i64 d0.tt.kind, .string d0.tt.text]) 1).run Tryz.prog W = .ok (.agg #[.int .i64 d0.fr.kind, .string d0.fr.text]) W := fun W => by kernel_rfl
       have HPT : Hid (∀ w', Mp Tryz.prog 3 w' mb (n + 1) (mpSet m (.int .i64 z) (shV ⟨z, d0.fr, key⟩)) → wr.grownBy w' (some mb) → ShS w mb (n + 1) (mpSet m (.int .i64 z) (shV ⟨z, d0.fr, key⟩)) w') := fun w' h1 h2 => HS.out.put HZ.out.1 HZ.out.2 _ h1 h2
       clear HS HT
       go_wp2_with (at_mapUpdate; refine wpList_mp_set _ rfl _ _ _ 291 rfl 3 293 intKeyed Tryz.underlying291 mb n m rfl HMP.out HCL.out _ (shV ⟨z, d0.fr, key⟩) _ rfl rfl HKY.out ?_; intro w5 hM5 hg5 hz5; have HS5 := Lib.hid (HPT.out w5 hM5 hg5); have HT5 := Lib.hid (HTW.out w5 hg5); clear hM5 hg5 hz5)
       go_roundw
       case rel => exact ⟨j + 1, n + 1, _, by omega, by go_num, (by have := HN.out; show _ ≤ _; omega), HS5, HT5⟩
       case measure => simp [intOf]; omega
      ·have hje : j = nos.length := by omega
       subst hje
       clear HT
       go_wp2_with fail
       go_roundw
       case rel => exact ⟨i + 1, n, m, by omega, by go_num, (by have := HN.out; show _ ≤ _; omega), HS⟩
       case measure => simp [intOf]; omega
    ·have hie : i = qs.length := by omega
     subst hie
     have HN0 : Hid (n ≤ 200000) := by have := HN.out; show _ ≤ _; omega
     clear HN
     have HS0 := HS
     clear HS
     have HM0 := Lib.hid HS0.out.mp
     have DF : Hid (∀ (w4 : World) (left0 : Lit → Bool) (cnt0 : Nat), (∀ l, WideAt.IsKeyLit l → left0 l = (m l).isSome) → Rg Tryz.prog 3 w4 mb wr.heap.size n m left0 cnt0 → wr.grownBy w4 none → w4.heap.size = wr.heap.size + 1 → Hid (DfL w mb wr.heap.size n m w4.heap.size left0 cnt0 [] (.slice none 0 0) w4)) := fun w4 left0 cnt0 h1 h2 h3 h4 =>
      ⟨h2, HS0.out.bel.trans (Below.mono ⟨h3.os, h3.tape, h3.output, h3.size, fun q hq => h3.block q hq (by simp)⟩ HS0.out.bel.size), fun l hl e => by rw [← h1 l hl]; exact e, Orow.nil _ _ _ _ _, (by have := h2.cnt_le; simpa using this), ⟨HS0.out.ge, by have := HS0.out.mp.lt; omega, by omega, HS0.out.bel.size, Nat.le_refl _⟩⟩
     have HKS := Lib.hid HS0.out.keys
     have HVS := Lib.hid HS0.out.vals
     have HN9 := HN0.out
     clear HS0 HN0
     go_wp2_with (at_range; refine wpList_range_mp _ rfl _ _ rfl _ _ intKeyed Tryz.underlying291 mb n m rfl HM0.out ?_; intro w4 left0 cnt0 hlf hrg hgr hsz4; have D0 := DF.out w4 left0 cnt0 hlf hrg hgr hsz4; clear hlf hrg hgr hsz4 DF HM0)
     go_frame
     obtain ⟨bs, hbs⟩ : ∃ bs, bs = w4.heap.size := ⟨_, rfl⟩
     rw [← hbs] at D0
     clear hbs
     obtain ⟨rp, hrp⟩ : ∃ rp, rp = wr.heap.size := ⟨_, rfl⟩
     rw [← hrp] at D0 ⊢
     clear hrp
     go_loopw [14] (fun t wq => ∃ (va : Option Addr) (vc : Nat) (ds : List ShD) (left : Lit → Bool) (cnt : Nat), t = .slice va ds.length vc ∧ Hid (DfL w mb rp n m bs left cnt ds (.slice va ds.length vc) wq)) (fun _ wq => wq.rangeLeft mb rp)
     case atStart => exact ⟨none, 0, [], left0, cnt0, rfl, D0⟩
     case round =>
      obtain ⟨va, vc, ds, left, cnt, rfl, M⟩ := hrel
      clear D0
      have hdl : ds.length ≤ 1000000 := by have := M.out.len; omega
      go_wp2_with (at_next; refine wpList_next_mp (α := {z : Int // 0 ≤ z ∧ z ≤ 1000000}) _ rfl _ rfl _ intKeyed (fun z => .int .i64 z.1) mb rp n m left cnt rfl M.out.rg (fun l h1 h2 => ?_) ?_ ?_)
      ·obtain ⟨z, h3, h4, rfl⟩ := HKS.out l (M.out.lft l h2 h1)
       exact ⟨⟨z, h3, h4⟩, keyInt h3 h4⟩
      ·intro hc0 hl0
       have HSF := Lib.hid (sortFunc_Sh shCmp shCmp_ok 254 #[] (fun _ _ => by kernel_rfl) (fun W a b => differ1_any a b W) bs (.slice va ds.length vc) ds wr M.out.row hdl)
       have HF : Hid (∀ w', wr.grownBy w' (Value.slice va ds.length vc).ownBlock → (∃ A' n c, Ending.returned (.slice va ds.length vc) = .returned (.slice A' n c)) ∧ Below w.heap.size w w') := fun w' hg => ⟨⟨_, _, _, rfl⟩, Below.mk8 M.out.bel hg (fun q e => by have h1 := (M.out.row.lt e).1; have h2 := M.out.ge; omega)⟩
       clear M
       go_wp2_with fail
       refine HSF.out.mono ?_
       rintro e W12 ⟨rfl, ws', -, -, -, hg12⟩
       have HE := Lib.hid (HF.out W12 hg12)
       clear hg12 HSF HF
       go_wp2_with fail
       exact bodyPost_ret (by kernel_rfl) rfl HE.out
      ·intro z hz0 hz1 c kl w5 cnt5 hkl hlx hmc hrg5 hlt5 hg5 hs5 hen
       obtain ⟨d, rfl⟩ := HVS.out _ _ hmc
       have HCN : Hid (cnt5 < cnt ∧ wr.rangeLeft mb rp = cnt ∧ ds.length + cnt ≤ n) := ⟨hlt5, M.out.rg.left_eq, M.out.len⟩
       have HNX : Hid (DfL w mb rp n m bs (fun q => left q && !q.sameKey kl) cnt5 ds (.slice va ds.length vc) w5) := M.out.next hrg5 hg5 hlt5
       clear hkl hlx hmc hrg5 hlt5 hg5 hs5 M
       rw [show shV d = .agg #[.int .i64 d.no, .int .i64 d.fr.kind, .string d.fr.text, .int .i64 d.tt.kind, .string d.tt.text] from rfl] at hen ⊢
       have hn1 := new1 (w := w5) (.cells #[.int .i64 d.no, .int .i64 d.fr.kind, .string d.fr.text, .int .i64 d.tt.kind, .string d.tt.text] 293)
       have HD := Lib.hid (HNX.out.call hn1)
       have HXB := heap_alloc_new w5 (.cells #[.int .i64 d.no, .int .i64 d.fr.kind, .string d.fr.text, .int .i64 d.tt.kind, .string d.tt.text] 293)
       clear hn1 HNX
       have x0 := cell_h HXB 0 (v := .int .i64 d.no) rfl
       have x1 := cell_h HXB 1 (v := .int .i64 d.fr.kind) rfl
       have x2 := cell_h HXB 2 (v := .string d.fr.text) rfl
       have x3 := cell_h HXB 3 (v := .int .i64 d.tt.kind) rfl
       have x4 := cell_h HXB 4 (v := .string d.tt.text) rfl
       clear HXB
       go_upto_region 24 with (fail)
       clear hen
       generalize w5.alloc (.cells #[.int .i64 d.no, .int .i64 d.fr.kind, .string d.fr.text, .int .i64 d.tt.kind, .string d.tt.text] 293) = W6 at *
       generalize w5.heap.size = xb at *
       cases k1 : (d.fr.kind == d.tt.kind) with
       | false =>
        have hB9 := HD.out.ge.2.2.2.2
        have hro := HD.out.row
        go_wp2_with (at_builtin; refine wpList_app_at rfl _ _ 86 rfl bs 293 j0 (.agg #[.int .i64 0, .int .i64 0, .string ⟨#[]⟩, .int .i64 0, .string ⟨#[]⟩]) 5 56 Tryz.underlying86 HJ0.out hj0 hj1 hj2 rfl (by decide) fSh _ ds rfl hro d #[.int .i64 d.no, .int .i64 d.fr.kind, .string d.fr.text, .int .i64 d.tt.kind, .string d.tt.text] 293 rfl rfl (by simp [Value.oneCell']) (by omega) (by omega) hB9 ?_; intro v1 w9 o1 g1 b1 at1; have HO9 := Lib.hid o1; have HGW := Lib.hid g1; have HBW := Lib.hid b1; clear o1 g1 b1 at1)
        obtain ⟨A9, c9, e9, _⟩ := HO9.out.slice
        subst e9
        have M9 := Lib.hid (HD.out.take HCN.out.1 HGW.out HO9.out HCN.out.2.2)
        exact ⟨⟨A9, c9, ds ++ [d], _, _, rfl, M9⟩, by rw [M9.out.rg.left_eq, HCN.out.2.1]; exact HCN.out.1⟩
       | true =>
        cases k2 : (d.fr.text.toList == d.tt.text.toList) with
        | false =>
         have hB9 := HD.out.ge.2.2.2.2
         have hro := HD.out.row
         go_wp2_with (at_builtin; refine wpList_app_at rfl _ _ 86 rfl bs 293 j0 (.agg #[.int .i64 0, .int .i64 0, .string ⟨#[]⟩, .int .i64 0, .string ⟨#[]⟩]) 5 56 Tryz.underlying86 HJ0.out hj0 hj1 hj2 rfl (by decide) fSh _ ds rfl hro d #[.int .i64 d.no, .int .i64 d.fr.kind, .string d.fr.text, .int .i64 d.tt.kind, .string d.tt.text] 293 rfl rfl (by simp [Value.oneCell']) (by omega) (by omega) hB9 ?_; intro v1 w9 o1 g1 b1 at1; have HO9 := Lib.hid o1; have HGW := Lib.hid g1; have HBW := Lib.hid b1; clear o1 g1 b1 at1)
         obtain ⟨A9, c9, e9, _⟩ := HO9.out.slice
         subst e9
         have M9 := Lib.hid (HD.out.take HCN.out.1 HGW.out HO9.out HCN.out.2.2)
         exact ⟨⟨A9, c9, ds ++ [d], _, _, rfl, M9⟩, by rw [M9.out.rg.left_eq, HCN.out.2.1]; exact HCN.out.1⟩
        | true =>
         go_wp2_with fail
         exact ⟨⟨va, vc, ds, _, _, rfl, HD⟩, by rw [HD.out.rg.left_eq, HCN.out.2.1]; exact HCN.out.1⟩
open Go.RowKit
theorem newH_step {n m : Nat} {w w' : World} (h : m ≤ n) (hb : Below w.heap.size w w') : (newH n w).Le (newH m w') := fun b o e => by
 unfold newH at e ⊢
 by_cases g : b < n
 ·rw [if_pos g] at e; cases e
 ·rw [if_neg g] at e
  rw [if_neg (by omega)]
  exact (hb.block b (lt_of_heap e)).trans e
def PsOk (ps : List PerD) : Prop := ps.length ≤ 1000 ∧ ∀ p ∈ ps, p.nos.length ≤ 100 ∧ ∀ z ∈ p.nos, 0 ≤ z ∧ z ≤ 1000000
theorem psOk_of {J : IdD → Bool} {us : List TchD} {rep : Nat → Nat} {ps : List PerD} (hq : PersQ J us rep ps) (hl : us.length ≤ 100) (hus : ∀ u ∈ us, RightT u) : PsOk ps := by
 have h1 := rts_le rep us.length
 refine ⟨by rw [hq.len]; omega, fun p hp => ?_⟩
 obtain ⟨k, hk, rfl⟩ := List.getElem_of_mem hp
 have hkr : k < (rts rep us.length).length := by rw [← hq.len]; exact hk
 have h2 := cls_le rep us.length (rts rep us.length)[k]
 rw [hq.nos k hkr hk]
 refine ⟨by rw [List.length_map]; omega, fun z hz => ?_⟩
 obtain ⟨q, hq1, rfl⟩ := List.mem_map.1 hz
 have hq2 := cls_lt hq1
 rw [tAt_lt hq2]
 have := (hus _ (List.getElem_mem hq2)).no
 omega
def idxCells (r : RulD) (v4 v5 : Value) : Array Value := #[.slice r.ka r.kinds.length r.kc, .int .i64 r.most, .slice r.wa r.weaks.length r.wc, .slice r.sa r.surs.length r.sc, v4, v5]
def BecPost (r : RulD) (xb : Nat) (A : Option Addr) (cap : Nat) (us : List TchD) (w : World) (e : Ending) (w' : World) : Prop :=
 ∃ (A' : Option Addr) (n c : Nat) (Ap : Option Addr) (cp : Nat) (ps : List PerD) (rr : List Nat), e = .returned (.slice A' n c) ∧ w'.heap[xb]? = some (.cells (idxCells r (.slice A us.length cap) (.slice Ap ps.length cp)) 171 (0, 0)) ∧ PerIn (newH w.heap.size w') Ap ps ∧ Uf (Share (JD r us) us) rr ∧ PersQ (JD r us) us (repN rr) ps ∧ w.grownBy w' (some xb)
set_option maxHeartbeats 4000000 in
set_option maxRecDepth 100000 in
theorem become_any (H : Frz) (xb : Nat) (r : RulD) (A : Option Addr) (cap : Nat) (us : List TchD) (Ap : Option Addr) (cp : Nat) (ps : List PerD) (v4 : Value) (w : World) (hH : H.In w) (hx : H xb = none) (ho : w.heap[xb]? = some (.cells (idxCells r v4 (.slice Ap ps.length cp)) 171 (0, 0)))
  (hR : RulIn H r) (hr : RightR r) (hT : TchIn H A us) (hP : PerIn H Ap ps) (hps : PsOk ps) (hl : us.length ≤ 100) (hus : ∀ u ∈ us, RightT u) :
  Calls Tryz.prog 120 #[.pointer (some ⟨xb, 0, none⟩), .slice A us.length cap] w (BecPost r xb A cap us w) := by
 have hfit : ∀ t ∈ us, ∀ x ∈ t.ids, FitId x := fun t hx x hxx => fit_of ((hus t hx).idE x hxx)
 have hpq := fun {rep : Nat → Nat} {qs : List PerD} (h : PersQ (JD r us) us rep qs) => psOk_of h hl hus
 have HPQ : Hid (∀ (rep : Nat → Nat) (qs : List PerD), PersQ (JD r us) us rep qs → PsOk qs) := fun rep qs h => psOk_of h hl hus
 have HNG := Lib.hid (fun W (hW : H.In W) => newGroup_any H r A cap us W hW hT (by omega) (fun t ht => ⟨by have := (hus t ht).len; omega, hfit t ht, rising_ne (hus t ht).ids⟩))
 have HFT : Hid (∀ t ∈ us, (∀ x ∈ t.ids, FitId x) ∧ 0 < t.ids.length ∧ t.ids.length ≤ 20) := fun t ht => ⟨hfit t ht, by have := (hus t ht).len; omega, by have := (hus t ht).len; omega⟩
 have HH := Lib.hid hH
 have HO := Lib.hid ho
 have HRI := Lib.hid hR
 have HRR := Lib.hid hr
 have HTI := Lib.hid hT
 have HPI := Lib.hid hP
 have HPO := Lib.hid hps
 have x0 := cell_h ho 0 (v := .slice r.ka r.kinds.length r.kc) rfl
 have x1 := cell_h ho 1 (v := .int .i64 r.most) rfl
 have x2 := cell_h ho 2 (v := .slice r.wa r.weaks.length r.wc) rfl
 have x3 := cell_h ho 3 (v := .slice r.sa r.surs.length r.sc) rfl
 clear hH ho hR hr hT hP hps hus hfit hpq
 go_enter Tryz.func120, Tryz.ntmps120
 go_wp2_with fail
 refine (HNG.out w HH.out).mono ?_
 rintro e W3 ⟨gp, bm, nm, m, rfl, hS, hgo, hgp⟩
 have HB3 := Lib.hid hS.bel
 obtain ⟨hle, hG⟩ := GrpIn.of hS hgo HH.out HRI.out HTI.out
 have HME := Lib.hid (members_any hG HRR.out.ws (by have := HRR.out.wl; omega) (by have := HRR.out.kl; omega) (by omega) HFT.out W3 (wholeH_in W3))
 clear hS hgo hle hG HNG x0 x1 x2 x3 hgp
 go_wp2_with fail
 refine HME.out.mono ?_
 rintro e W4 ⟨vout, B, rr, ms, nos, ats, ids, rfl, huf, hMS, hQ⟩
 have HB4 := Lib.hid (HB3.out.trans (hMS.bel.mono HB3.out.size))
 obtain ⟨A4, c4, hv4, _⟩ := hMS.out.slice
 have hmsl : ms.length ≤ 100000 := by have h1 := hQ.len; have h2 := rts_le (repN rr) us.length; omega
 have HPR := Lib.hid (persons_row B vout ms hmsl (fun d hd => by
  obtain ⟨k, hk, rfl⟩ := List.getElem_of_mem hd
  obtain ⟨A1, c1, e1, _⟩ := (hMS.rowT hk).slice
  obtain ⟨A2, c2, e2, _⟩ := (hMS.rowI hk).slice
  obtain ⟨A3, c3, e3, _⟩ := (hMS.rowA hk).slice
  exact ⟨⟨_, _, _, e1⟩, ⟨_, _, _, e2⟩, ⟨_, _, _, e3⟩⟩) W4 hMS.out)
 have HMS := Lib.hid hMS
 have HQ := Lib.hid hQ
 have HUF := Lib.hid huf
 subst hv4
 clear hMS hQ huf HME
 go_wp2_with fail
 refine HPR.out.mono ?_
 rintro e W5 ⟨v, rfl, hO, hb5⟩
 have HB5 := Lib.hid (HB4.out.trans (hb5.mono HB4.out.size))
 obtain ⟨A5, c5, qs, rfl, hp1, hp2, hp3⟩ := pers_of HMS.out HQ.out hO hb5 (n := w.heap.size) (Nat.le_trans HB3.out.size HMS.out.ge) HB4.out.size
 have HP5 := Lib.hid hp1
 have HQ5 := Lib.hid hp2
 have HO5 := Lib.hid ((HB5.out.block xb (lt_of_heap HO.out)).trans HO.out)
 have HIN5 := Lib.hid (HH.out.below HB5.out)
 have hqo := HPQ.out _ _ hp2
 have HDF := Lib.hid (differ_any (wholeH W5) Ap A5 cp c5 ps qs W5 (wholeH_in W5) (HPI.out.le fun b o h => HIN5.out b o h) (hp1.le (newH_le _ _)) HPO.out.1 hqo.1 HPO.out.2 hqo.2)
 have x5 := cell_h HO5.out 5 (v := .slice Ap ps.length cp) rfl
 clear hO hb5 hp1 hp2 hp3 HPR hqo HMS HQ
 go_wp2_with fail
 refine HDF.out.mono ?_
 rintro e W6 ⟨⟨A6, n6, c6, rfl⟩, hb6⟩
 have HB6 := Lib.hid (HB5.out.trans (hb6.mono HB5.out.size))
 have HO6 := Lib.hid ((hb6.block xb (lt_of_heap HO5.out)).trans HO5.out)
 have HP6 := Lib.hid (HP5.out.le (newH_step (Nat.le_refl w.heap.size) hb6))
 have x4 := cell_h HO6.out 4 (v := v4) rfl
 have x5' := cell_h HO6.out 5 (v := .slice Ap ps.length cp) rfl
 have f4 := froz_h HO6.out 4
 have f5 := froz_h HO6.out 5
 have HXL : Hid (xb < w.heap.size) := lt_of_heap HO.out
 have HGR : Hid (W6.grownBy ((W6.setCell ⟨xb, 4, none⟩ (.slice A us.length cap)).setCell ⟨xb, 5, none⟩ (.slice A5 qs.length c5)) (some xb)) := grown_setC (grown_setC (World.grownBy.refl _ _) _ _) _ _
 have HOB : Hid (((W6.setCell ⟨xb, 4, none⟩ (.slice A us.length cap)).setCell ⟨xb, 5, none⟩ (.slice A5 qs.length c5)).heap[xb]? = some (.cells (idxCells r (.slice A us.length cap) (.slice A5 qs.length c5)) 171 (0, 0))) := by
  show _ = _
  have h := HO6.out
  unfold idxCells at h ⊢
  simp [World.setCell, Array.getElem?_modify, h]
 have HF : Hid (BecPost r xb A cap us w (.returned (.slice A6 n6 c6)) ((W6.setCell ⟨xb, 4, none⟩ (.slice A us.length cap)).setCell ⟨xb, 5, none⟩ (.slice A5 qs.length c5))) := by
  refine ⟨_, _, _, A5, c5, qs, rr, rfl, HOB.out, ?_, HUF.out, HQ5.out, ⟨HGR.out.os.trans HB6.out.os, HGR.out.tape.trans HB6.out.tape, HGR.out.output.trans HB6.out.output, Nat.le_trans HB6.out.size HGR.out.size, fun k hk hne => (HGR.out.block k (Nat.lt_of_lt_of_le hk HB6.out.size) hne).trans (HB6.out.block k hk)⟩⟩
  refine HP6.out.le fun b o h => ?_
  unfold newH at h ⊢
  by_cases g : b < w.heap.size
  ·rw [if_pos g] at h; cases h
  ·rw [if_neg g] at h ⊢
   refine (HGR.out.block b (lt_of_heap h) (by intro c; injection c with c; have := HXL.out; omega)).trans h
 clear HDF hb6 HO6 HP6 HP5 HQ5 HUF HGR HOB x5
 go_wp2_with fail
 go_ret
 exact HF.out
open Go.RowKit
theorem infoTch : (Tryz.prog.info? 53).map (fun i => (i.zero, i.size, i.bytes)) = some (some (.agg #[.int .i64 0, .int .i64 0, .string ⟨#[]⟩, .slice none 0 0, .slice none 0 0]), 5, 80) := by kernel_rfl
section
variable {D : Type}
set_option maxHeartbeats 1000000 in
set_option maxRecDepth 100000 in
theorem clone_Tch (H : Frz) (f : D → Nat → Value) (ds : List D) (hf : ∀ d ∈ ds, ∀ m, (f d m).oneCell' = true) (A : Option Addr) (cap : Nat) (w : World) (hH : H.In w) (hR : Rw H A 5 f ds) (hl : ds.length ≤ 1000000) :
  Calls Tryz.prog 122 #[.slice A ds.length cap] w fun e w' => (∃ v, e = .returned v ∧ Orow w' w.heap.size 53 5 f v ds) ∧ Below w.heap.size w w' := by
 obtain ⟨i0, hi0, hz0, hz1, hz2⟩ := info_parts infoTch
 cases A with
 | none =>
  have hd : ds = [] := by
   cases ds with
   | nil => rfl
   | cons d ds => obtain ⟨b, off, e, _⟩ := hR 0 (by simp); cases e
  subst hd
  have hn := fun wx => Lib.run_eql_slice_nil (P := Tryz.prog) wx 46 53 none 0 cap 0 0 Tryz.underlying46
  clear hR hH hf
  go_enter Tryz.func122, Tryz.ntmps122
  go_wp2_with fail
  go_ret
  exact ⟨⟨_, rfl, Orow.nil _ _ _ _ _⟩, Below.refl _ _⟩
 | some ad =>
  have hnews : Hid (∀ j u, (cellsOf 5 f ds)[j]? = some u → w.cell? (ad.add j) = some u) := by
   intro j u hu
   have hj : j < ds.length * 5 := by have := (List.getElem?_eq_some_iff.1 hu).1; rwa [cellsOf_len] at this
   obtain ⟨b, off, e, _, hc⟩ := hR.at_ hH (i := j / 5) (by omega) (by omega)
   injection e with e
   subst e
   have h2 := hc (j % 5) (Nat.mod_lt _ (by omega))
   have h3 := cellsOf_get 5 f ds (j / 5) (j % 5) (by omega) (Nat.mod_lt _ (by omega))
   have e1 : j / 5 * 5 + j % 5 = j := by omega
   rw [e1, hu] at h3
   rw [Addr.add_lit, show off + j = off + j / 5 * 5 + j % 5 from by omega, h2]
   exact h3.symm
  have hone : Hid (∀ u ∈ cellsOf 5 f ds, u.oneCell' = true) := by
   intro u hu
   simp only [cellsOf, List.mem_flatMap, List.mem_map] at hu
   obtain ⟨d, hd, m, _, rfl⟩ := hu
   exact hf d hd m
  have hlen := Lib.hid (cellsOf_len 5 f ds)
  have hn := fun wx => Lib.run_eql_slice_nil (P := Tryz.prog) wx 46 53 (some ad) ds.length cap 0 0 Tryz.underlying46
  have hown : Hid ((w.alloc (.cells #[] 53)).ownsRow w.heap.size 53 5 (.slice (some ⟨w.heap.size, 0, none⟩) 0 0) 0 []) := ⟨rfl, Or.inr ⟨w.heap.size, 0, #[], rfl, Nat.le_refl _, heap_at rfl, Nat.le_refl _, Nat.zero_le _, rfl, rfl⟩⟩
  have hnews2 : Hid (∀ j u, (cellsOf 5 f ds)[j]? = some u → (w.alloc (.cells #[] 53)).cell? (ad.add j) = some u) := fun j u hu => by
   have := hnews.out j u hu
   exact (World.cell?_alloc_lt w _ _ (World.block_lt_of_cell? w _ this)).trans this
  clear hR hH hf hnews
  go_enter Tryz.func122, Tryz.ntmps122
  go_wp2_with (at_builtin; refine wpList_append_own _ rfl _ _ 46 rfl w.heap.size 53 i0 (.agg #[.int .i64 0, .int .i64 0, .string ⟨#[]⟩, .slice none 0 0, .slice none 0 0]) 5 80 Tryz.underlying46 hi0 hz0 hz1 hz2 rfl (by decide) (.slice (some ⟨w.heap.size, 0, none⟩) 0 0) 0 [] rfl hown.out ad ds.length cap (cellsOf 5 f ds) rfl hlen.out hnews2.out hone.out (by simp only [maxLen]; omega) (by omega) (by simp) ?_; intro v1 w2 o1 g1 b1)
  have O1 : Hid (Orow w2 w.heap.size 53 5 f v1 ds) := by
   show World.ownsRow _ _ _ _ _ _ _
   simpa using o1
  have B1 : Hid (Below w.heap.size w w2) := ((Below.refl _ w).alloc (Nat.le_refl _) _).grown g1 (by simp) (fun q hq => by simp [Value.ownBlock] at hq; omega)
  clear o1 g1 b1
  go_wp2_with fail
  go_ret
  exact ⟨⟨_, rfl, O1.out⟩, B1.out⟩
end
open Go.RowKit
theorem KBlk.bare {D : Type} {w : World} {g T k : Nat} {f : D → Nat → Value} {ds : List D} {rest : List Value} (h : KBlk w g T k f ds rest) : KBlk w g T k (fun (c : Nat → Value) j => c j) (ds.map f) rest := by
 unfold KBlk at h ⊢
 rw [h]
 congr 3
 unfold cellsOf
 rw [List.flatMap_map]
theorem KBlk.unbare {D : Type} {w : World} {g T k : Nat} {f : D → Nat → Value} {ds : List D} {rest : List Value} (h : KBlk w g T k (fun (c : Nat → Value) j => c j) (ds.map f) rest) : KBlk w g T k f ds rest := by
 unfold KBlk at h ⊢
 rw [h]
 congr 3
 unfold cellsOf
 rw [List.flatMap_map]
theorem KBlk.spare {w : World} {g T k : Nat} {ds : List (Nat → Value)} {rest : List Value} (h : KBlk w g T k (fun (c : Nat → Value) j => c j) ds rest) (hr : k ≤ rest.length) : KBlk w g T k (fun (c : Nat → Value) j => c j) (ds ++ [fun j => rest.getD j undef]) (rest.drop k) := by
 unfold KBlk at h ⊢
 rw [h]
 congr 3
 rw [show cellsOf k (fun (c : Nat → Value) j => c j) (ds ++ [fun j => rest.getD j undef]) = cellsOf k (fun (c : Nat → Value) j => c j) ds ++ (List.range k).map (fun j => rest.getD j undef) by unfold cellsOf; simp [List.flatMap_append]]
 rw [List.append_assoc]
 congr 1
 have e : (List.range k).map (fun j => rest.getD j undef) = rest.take k := by
  apply List.ext_getElem
  ·simp; omega
  ·intro j h1 h2
   have hj : j < rest.length := by simp at h2; omega
   simp [List.getElem?_eq_getElem hj]
 rw [e, List.take_append_drop]
theorem cells_bare {D : Type} (k : Nat) (f : D → Nat → Value) (ds : List D) : cellsOf k (fun (c : Nat → Value) j => c j) (ds.map f) = cellsOf k f ds := by
 unfold cellsOf
 rw [List.flatMap_map]
theorem KBlk.src {D : Type} {w : World} {g T k : Nat} {f : D → Nat → Value} {ds : List D} {rest : List Value} (h : KBlk w g T k f ds rest) {i : Nat} (hi : i ≤ ds.length) (j : Nat) (v : Value) (hj : (cellsOf k f (ds.drop i))[j]? = some v) : w.cell? ((⟨g, i * k, none⟩ : Addr).add j) = some v := by
 have e : cellsOf k f ds = cellsOf k f (ds.take i) ++ cellsOf k f (ds.drop i) := by
  unfold cellsOf
  rw [← List.flatMap_append, List.take_append_drop]
 have hl : (cellsOf k f (ds.take i)).length = i * k := by rw [cellsOf_len, List.length_take, Nat.min_eq_left hi]
 rw [Addr.add_lit]
 unfold KBlk at h
 refine cell_h h (i * k + j) ?_
 have hlt : j < (cellsOf k f (ds.drop i)).length := (List.getElem?_eq_some_iff.1 hj).1
 rw [e, List.getElem?_toArray, List.append_assoc, List.getElem?_append_right (by omega), hl, Nat.add_sub_cancel_left, List.getElem?_append_left hlt]
 exact hj
theorem zero_cells (z : Array Value) (k : Nat) (hk : z.size = k) (h0 : 0 < k) (n : Nat) : (Builtin.zeroCells z n).toList = cellsOf k (fun (c : Nat → Value) j => c j) (List.replicate n (fun j => z[j]!)) := by
 apply List.ext_getElem?
 intro p
 have hl1 : (Builtin.zeroCells z n).toList.length = n * k := by rw [Array.length_toList, size_zeroCells, hk]
 have hl2 : (cellsOf k (fun (c : Nat → Value) j => c j) (List.replicate n (fun j => z[j]!))).length = n * k := by rw [cellsOf_len, List.length_replicate]
 by_cases hp : p < n * k
 ·have h1 : p / k < n := Nat.div_lt_of_lt_mul (by rw [Nat.mul_comm]; exact hp)
  have h2 := cellsOf_get k (fun (c : Nat → Value) j => c j) (List.replicate n (fun j => z[j]!)) (p / k) (p % k) (by rw [List.length_replicate]; exact h1) (Nat.mod_lt _ h0)
  rw [show p / k * k + p % k = p by rw [Nat.mul_comm]; exact Nat.div_add_mod p k] at h2
  rw [h2]
  simp [Builtin.zeroCells, hk, hp]
 ·rw [List.getElem?_eq_none (by omega), List.getElem?_eq_none (by omega)]
theorem KBlk.zeros {w : World} {T k : Nat} (L : List (Nat → Value)) (z : Array Value) (hk : z.size = k) (h0 : 0 < k) (a b : Nat) : KBlk (w.drew.alloc (.cells ((cellsOf k (fun (c : Nat → Value) j => c j) L).toArray ++ Builtin.zeroCells z a ++ Builtin.zeroCells z b) T)) w.heap.size T k (fun (c : Nat → Value) j => c j) (L ++ List.replicate a (fun j => z[j]!)) (Builtin.zeroCells z b).toList := by
 unfold KBlk
 have h := heap_alloc_new w.drew (.cells ((cellsOf k (fun (c : Nat → Value) j => c j) L).toArray ++ Builtin.zeroCells z a ++ Builtin.zeroCells z b) T)
 refine h.trans ?_
 congr 2
 apply Array.ext'
 have e : cellsOf k (fun (c : Nat → Value) j => c j) (L ++ List.replicate a (fun j => z[j]!)) = cellsOf k (fun (c : Nat → Value) j => c j) L ++ (Builtin.zeroCells z a).toList := by
  rw [zero_cells z k hk h0]
  unfold cellsOf
  rw [List.flatMap_append]
 simp [e]
def InsPost (B0 : Nat) (v : Value) (ds : List TchD) (u : TchD) (i : Nat) (w : World) (e : Ending) (w' : World) : Prop := ∃ v', e = .returned v' ∧ Orow w' B0 53 5 fTch v' (ds.take i ++ u :: ds.drop i) ∧ w.grownBy w' v.ownBlock
set_option maxHeartbeats 4000000 in
set_option maxRecDepth 100000 in
theorem insert_Tch (B0 : Nat) (v : Value) (ds : List TchD) (u : TchD) (q : Nat) (w : World) (hO : Orow w B0 53 5 fTch v ds) (hB : B0 ≤ w.heap.size) (hq : w.heap[q]? = some (.cells #[.int .i64 u.no, .int .i64 u.at_, .string u.source, .slice u.ia u.ids.length u.ic, .slice u.fa u.fields.length u.fc] 53 (0, 0))) (i : Nat) (hi : i ≤ ds.length) (hqv : i < ds.length → v.ownBlock ≠ some q) (hl : ds.length ≤ 100000) :
  Calls Tryz.prog 121 #[v, .int .i64 i, .slice (some ⟨q, 0, none⟩) 1 1] w (InsPost B0 v ds u i w) := by
 obtain ⟨i0, hi0, hz0, hz1, hz2⟩ := info_parts infoTch
 obtain ⟨vA, vc, hv, hvc⟩ := hO.slice
 subst hv
 have HPP : Hid (∀ v' w', Orow w' B0 53 5 fTch v' (ds.take i ++ u :: ds.drop i) → w.grownBy w' (Value.slice vA ds.length vc).ownBlock → InsPost B0 (.slice vA ds.length vc) ds u i w (.returned v') w') := fun v' w' h1 h2 => ⟨v', rfl, h1, h2⟩
 have hii : (i : Int) ≤ ds.length := by omega
 have HQ := Lib.hid hq
 have HO := Lib.hid hO
 by_cases hin : i = ds.length
 ·subst hin
  have k1 : ((ds.length : Int) == (ds.length : Int)) = true := by simp
  rw [List.take_length, List.drop_length] at HPP
  by_cases hvn : vc = ds.length
  ·subst hvn
   clear hq hO
   go_enter Tryz.func121, Tryz.ntmps121
   go_wp2_with (at_builtin; refine wpList_app_any rfl _ _ 46 rfl B0 53 i0 (.agg #[.int .i64 0, .int .i64 0, .string ⟨#[]⟩, .slice none 0 0, .slice none 0 0]) 5 80 Tryz.underlying46 hi0 hz0 hz1 hz2 rfl (by decide) fTch (.slice vA ds.length ds.length) ds (by go_simp) HO.out u q #[.int .i64 u.no, .int .i64 u.at_, .string u.source, .slice u.ia u.ids.length u.ic, .slice u.fa u.fields.length u.fc] 53 (by go_simp) HQ.out rfl (by simp [Value.oneCell']) (by omega) (by omega) hB ?_; intro v1 w2 o1 g1 b1 at1; have HF := Lib.hid (HPP.out v1 w2 o1 g1); clear o1 g1 b1 at1)
   exact bodyPost_ret (by kernel_rfl) rfl HF.out
  ·clear hq hO
   go_enter Tryz.func121, Tryz.ntmps121
   go_wp2_with (at_builtin; refine wpList_app_any rfl _ _ 46 rfl B0 53 i0 (.agg #[.int .i64 0, .int .i64 0, .string ⟨#[]⟩, .slice none 0 0, .slice none 0 0]) 5 80 Tryz.underlying46 hi0 hz0 hz1 hz2 rfl (by decide) fTch (.slice vA ds.length vc) ds (by go_simp) HO.out u q #[.int .i64 u.no, .int .i64 u.at_, .string u.source, .slice u.ia u.ids.length u.ic, .slice u.fa u.fields.length u.fc] 53 (by go_simp) HQ.out rfl (by simp [Value.oneCell']) (by omega) (by omega) hB ?_; intro v1 w2 o1 g1 b1 at1; have HF := Lib.hid (HPP.out v1 w2 o1 g1); clear o1 g1 b1 at1)
   exact bodyPost_ret (by kernel_rfl) rfl HF.out
 ·obtain ⟨g, c9, rest, hv, hle, hBg, hgq, hm, hk, hr⟩ := hO.form (by intro e; subst e; simp at hin hi; omega)
  cases hv
  have k1 : ((i : Int) == (ds.length : Int)) = false := beq_eq_false_iff_ne.2 (by omega)
  have k2 : ¬ ((i : Int) = (ds.length : Int)) := by omega
  by_cases hroom : vc < ds.length + 1
  ·have k3 : decide ((vc : Int) < (ds.length : Int) + 1) = true := by simp; omega
   clear hq hO
   go_enter Tryz.func121, Tryz.ntmps121
   go_upto_region 9 with (fail)
   have hil : i < ds.length := by omega
   have hgq2 : q ≠ g := fun e => hqv (by omega) (by rw [e]; rfl)
   have hcl : (cellsOf 5 (fun (c : Nat → Value) j => c j) ((ds.take i).map fTch)).length = i * 5 := by rw [cellsOf_len, List.length_map, List.length_take, Nat.min_eq_left (by omega)]
   have hold : (Builtin.firstCells i0.size i (.slice (some ⟨g, 0, none⟩) i vc)).run Tryz.prog w.drew = .ok (cellsOf 5 (fun (c : Nat → Value) j => c j) ((ds.take i).map fTch)).toArray w.drew := by
    rw [hz1]
    refine run_firstCells_some w.drew 5 i ⟨g, 0, none⟩ i vc _ hcl fun j v hj => ?_
    rw [cells_bare] at hj
    have e : cellsOf 5 fTch ds = cellsOf 5 fTch (ds.take i) ++ cellsOf 5 fTch (ds.drop i) := by
     unfold cellsOf
     rw [← List.flatMap_append, List.take_append_drop]
    have hk' := hk
    unfold KBlk at hk'
    have hlt : j < (cellsOf 5 fTch (ds.take i)).length := (List.getElem?_eq_some_iff.1 hj).1
    rw [Addr.add_lit, Nat.zero_add]
    refine cell_h (w := w.drew) hk' j ?_
    rw [e, List.getElem?_toArray, List.append_assoc, List.getElem?_append_left hlt]
    exact hj
   obtain ⟨G, hG⟩ : ∃ G, G = grownCap w (ds.length + 1) vc 53 := ⟨_, rfl⟩
   have hik : i + (ds.length + 1 - i) = ds.length + 1 := by omega
   have hkk : (ds.length : Int) + 1 - (i : Int) = ((ds.length + 1 - i : Nat) : Int) := by omega
   obtain ⟨zc, hzc⟩ : ∃ zc : Array Value, zc = #[.int .i64 0, .int .i64 0, .string ⟨#[]⟩, .slice none 0 0, .slice none 0 0] := ⟨_, rfl⟩
   obtain ⟨W1, hW1⟩ : ∃ W1, W1 = w.drew.alloc (.cells ((cellsOf 5 (fun (c : Nat → Value) j => c j) ((ds.take i).map fTch)).toArray ++ Builtin.zeroCells zc (ds.length + 1 - i) ++ Builtin.zeroCells zc (G - (ds.length + 1))) 53) := ⟨_, rfl⟩
   have hrz : ∀ ty, (Builtin.append_ #[46, 3] ty #[.slice (some ⟨g, 0, none⟩) i vc, .int .i64 ((ds.length + 1 - i : Nat) : Int)]).run Tryz.prog w = .ok (.slice (some ⟨w.heap.size, 0, none⟩) (ds.length + 1) G) W1 := fun ty => by
    have h := Lib.run_append_grow_zeros w 46 3 ty 53 i0 _ .i64 .i64 Tryz.underlying46 Tryz.underlying3 hi0 hz0 (some ⟨g, 0, none⟩) i vc _ hold (ds.length + 1 - i) (by omega) (by omega) (by omega) (by omega) (by rw [hz2]; omega) (by rw [hz2, hik]; exact growslice_fits hroom (by omega))
    rw [hik, ← hG] at h
    rw [h, hW1, hzc]
    rfl
   have hGn : ds.length + 1 ≤ G := by rw [hG]; exact grownCap_ge w _ _ _
   have hGm : G ≤ maxLen := by rw [hG]; exact grownCap_le_maxLen w (ds.length + 1) vc _ (by unfold maxLen; omega)
   have hzs5 : zc.size = 5 := by rw [hzc]; rfl
   have hkn := KBlk.zeros (w := w) (T := 53) ((ds.take i).map fTch) zc hzs5 (by omega) (ds.length + 1 - i) (G - (ds.length + 1))
   rw [← hW1] at hkn
   have HKN := Lib.hid hkn
   have hsz1 : W1.heap.size = w.heap.size + 1 := by rw [hW1]; simp
   have hB1 : Below w.heap.size w W1 := by rw [hW1]; exact (Below.refl _ w).drew.alloc (Nat.le_refl _) _
   have HB1 := Lib.hid hB1
   have HQ1 := Lib.hid ((hB1.block q (lt_of_heap HQ.out)).trans HQ.out)
   have HK1 := Lib.hid (hk.keep hB1)
   have hqn : q ≠ w.heap.size := by have := lt_of_heap HQ.out; omega
   have hgn : g ≠ w.heap.size := by omega
   have hrl : (Builtin.zeroCells zc (G - (ds.length + 1))).toList.length = G * 5 - (ds.length + 1) * 5 := by rw [Array.length_toList, size_zeroCells, hzs5, Nat.sub_mul]
   have hw2 : IntKind.i64.wrap ((ds.length : Int) + 1 - (i : Int)) = ((ds.length + 1 - i : Nat) : Int) := by rw [hkk]; exact IntWalk.i64_in _ (by omega)
   have hw3 : IntKind.i64.wrap (((ds.length + 1 - i : Nat) : Int)) = ((ds.length + 1 - i : Nat) : Int) := IntWalk.i64_in _ (by omega)
   have HRL : Hid (G ≤ maxLen ∧ B0 ≤ w.heap.size ∧ (Builtin.zeroCells zc (G - (ds.length + 1))).toList.length = G * 5 - (ds.length + 1) * 5) := ⟨hGm, hB, hrl⟩
   have hsz5 : (Tryz.prog.info? 53).map (·.size) = some 5 := by kernel_rfl
   have hG9 : G ≤ 9223372036854775807 := by unfold maxLen at hGm; omega
   generalize hrst : (Builtin.zeroCells zc (G - (ds.length + 1))).toList = rs at *
   generalize hzf : (fun j : Nat => (zc[j]! : Value)) = zf at *
   clear hrst hzf hW1 hG hzc hkn hold hcl hsz1 hB1 hrl hGm hk
   have hone2 : ∀ v ∈ cellsOf 5 (fun (c : Nat → Value) j => c j) [fTch u], v.oneCell' = true := by
    intro v hv
    simp only [cellsOf, List.mem_flatMap, List.mem_map, List.mem_singleton] at hv
    obtain ⟨d, rfl, m, -, rfl⟩ := hv
    match m with
    | 0 => rfl
    | 1 => rfl
    | 2 => rfl
    | 3 => rfl
    | _ + 4 => rfl
   have hone : ∀ v ∈ cellsOf 5 (fun (c : Nat → Value) j => c j) ((ds.drop i).map fTch), v.oneCell' = true := by
    rw [cells_bare]
    intro v hv
    simp only [cellsOf, List.mem_flatMap, List.mem_map] at hv
    obtain ⟨d, -, m, -, rfl⟩ := hv
    match m with
    | 0 => rfl
    | 1 => rfl
    | 2 => rfl
    | 3 => rfl
    | _ + 4 => rfl
   have hsrc2 : ∀ j v, (cellsOf 5 (fun (c : Nat → Value) j => c j) [fTch u])[j]? = some v → W1.cell? ((⟨q, 0, none⟩ : Addr).add j) = some v := fun j v hj => by
    rw [Addr.add_lit, Nat.zero_add]
    have h9 : ([.int .i64 u.no, .int .i64 u.at_, .string u.source, .slice u.ia u.ids.length u.ic, .slice u.fa u.fields.length u.fc] : List Value)[j]? = some v := hj
    exact cell_h HQ1.out j (by simpa using h9)
   have hn2 : ([fTch u] : List (Nat → Value)).length = Nat.min 1 (ds.length + 1 - i) := by simp only [Nat.min_def, List.length_cons, List.length_nil]; split <;> omega
   have hfit2 : i + ([fTch u] : List (Nat → Value)).length ≤ ((ds.take i).map fTch ++ List.replicate (ds.length + 1 - i) zf).length := by simp; omega
   have HR2 : Hid (((ds.take i).map fTch ++ List.replicate (ds.length + 1 - i) zf).take i ++ [fTch u] ++ ((ds.take i).map fTch ++ List.replicate (ds.length + 1 - i) zf).drop (i + ([fTch u] : List (Nat → Value)).length) = (ds.take i).map fTch ++ [fTch u] ++ List.replicate (ds.length - i) zf) := by
    show _ = _
    have hl9 : ((ds.take i).map fTch).length = i := by rw [List.length_map, List.length_take]; omega
    rw [List.take_append_of_le_length (by omega), List.take_of_length_le (by omega), List.drop_append, List.drop_eq_nil_of_le (by simp only [List.length_cons, List.length_nil]; omega), List.nil_append, List.drop_replicate, hl9]
    congr 2
    simp only [List.length_cons, List.length_nil]
    omega
   have HR3 : Hid (((ds.take i).map fTch ++ [fTch u] ++ List.replicate (ds.length - i) zf).take (i + 1) ++ (ds.drop i).map fTch ++ ((ds.take i).map fTch ++ [fTch u] ++ List.replicate (ds.length - i) zf).drop (i + 1 + ((ds.drop i).map fTch).length) = (ds.take i ++ u :: ds.drop i).map fTch) := by
    show _ = _
    have hl9 : ((ds.take i).map fTch ++ [fTch u]).length = i + 1 := by simp; omega
    have hd : ((ds.take i).map fTch ++ [fTch u] ++ List.replicate (ds.length - i) zf).drop (i + 1 + ((ds.drop i).map fTch).length) = [] := List.drop_eq_nil_of_le (by rw [List.length_append, hl9, List.length_replicate, List.length_map, List.length_drop]; exact Nat.le_refl _)
    rw [hd, List.append_nil, List.take_append_of_le_length (by omega), List.take_of_length_le (by omega)]
    simp
   have hn3 : ((ds.drop i).map fTch).length = Nat.min (ds.length - i) (ds.length - i) := by rw [List.length_map, List.length_drop]; simp
   have hfit3 : (i + 1) + ((ds.drop i).map fTch).length ≤ ((ds.take i).map fTch ++ [fTch u] ++ List.replicate (ds.length - i) zf).length := by simp; omega
   have HSR3 : Hid (∀ w2, W1.grownBy w2 (some w.heap.size) → ∀ j v, (cellsOf 5 (fun (c : Nat → Value) j => c j) ((ds.drop i).map fTch))[j]? = some v → w2.cell? ((⟨g, i * 5, none⟩ : Addr).add j) = some v) := fun w2 hg2 j v hj => by
    rw [cells_bare] at hj
    have hk2 : KBlk w2 g 53 5 fTch ds rest := (hg2.block g (lt_of_heap HK1.out) (by intro c; injection c with c; exact hgn c)).trans HK1.out
    exact hk2.src hi j v hj
   have mixed : Tryz.prog.follows .mixedOrders = true := by kernel_rfl
   have htn : ((i : Int) + 1).toNat = i + 1 := by omega
   have hb1 : (0 : Int) ≤ (i : Int) + 1 := by omega
   have hb2 : ¬ (G = i + 1) := by omega
   have hb3 : ¬ (G = i) := by omega
   have hb4 : (i : Int) + 1 ≤ (ds.length : Int) + 1 := by omega
   have hb5 : (i : Int) ≤ (ds.length : Int) + 1 := by omega
   have hb7 : ¬ (vc = i) := by omega
   have hw1 : IntKind.i64.wrap ((i : Int) + 1) = (i : Int) + 1 := IntWalk.i64_in _ (by omega)
   have hsub : ds.length + 1 - (i + 1) = ds.length - i := by omega
   go_wp2_with (first
    | (at_builtin; refine Lib.wpList_append_run _ rfl _ _ _ _ rfl _ _ rfl rfl _ _ (hrz _) ?_)
    | (with_reducible refine wpList_copyK (k := 5) (f := fun (c : Nat → Value) j => c j) (es := [fTch u]) rfl (.tmp 43) (.tmp 44) 46 46 rfl 53 Tryz.underlying46 hsz5 i (ds.length + 1 - i) (G - i) ⟨q, 0, none⟩ 1 1 rfl rfl HKN.out hn2 hsrc2 hfit2 hone2 ?_; intro w2 hkw hgw; rw [HR2.out] at hkw; have HK2 := Lib.hid hkw; have HG2 := Lib.hid hgw; clear hkw hgw))
   have hk2' : KBlk w2.drew w.heap.size 53 5 (fun (c : Nat → Value) j => c j) ((ds.take i).map fTch ++ [fTch u] ++ List.replicate (ds.length - i) zf) rs := HK2.out
   have hsrc3 : ∀ j v, (cellsOf 5 (fun (c : Nat → Value) j => c j) ((ds.drop i).map fTch))[j]? = some v → w2.drew.cell? ((⟨g, i * 5, none⟩ : Addr).add j) = some v := HSR3.out w2 HG2.out
   go_region_law_o (refine step_copyK rfl _ _ 46 46 rfl 53 Tryz.underlying46 hsz5 (i + 1) (ds.length - i) (G - (i + 1)) ⟨g, i * 5, none⟩ (ds.length - i) (vc - i) (by simp [Act.eval, Act.put]) (by simp [Act.eval, Act.put]) hk2' hn3 hsrc3 hfit3 hone ?_; intro w3 hkw hgw; rw [HR3.out] at hkw; have HK3 := Lib.hid hkw.unbare; have HG3 := Lib.hid hgw; clear hkw hgw)
   have HF : Hid (InsPost B0 (.slice (some ⟨g, 0, none⟩) ds.length vc) ds u i w (.returned (.slice (some ⟨w.heap.size, 0, none⟩) (ds.length + 1) G)) w3) := by
    have hl9 : (ds.take i ++ u :: ds.drop i).length = ds.length + 1 := by simp; omega
    have h := Orow.of_blk HK3.out HRL.out.2.1 HRL.out.1 (by rw [hl9]; exact hGn) (by rw [hl9]; exact HRL.out.2.2)
    rw [hl9] at h
    have hsA := HB1.out.size
    have hsB := HG2.out.size
    have hsC : w2.heap.size ≤ w3.heap.size := HG3.out.size
    refine HPP.out _ _ h ⟨HG3.out.os.trans (HG2.out.os.trans HB1.out.os), HG3.out.tape.trans (HG2.out.tape.trans HB1.out.tape), HG3.out.output.trans (HG2.out.output.trans HB1.out.output), by omega, fun k hk hne => ?_⟩
    exact (HG3.out.block k (show k < w2.heap.size by omega) (by intro c; injection c with c; omega)).trans ((HG2.out.block k (by omega) (by intro c; injection c with c; omega)).trans (HB1.out.block k hk))
   go_wp2_with fail
   exact bodyPost_ret (by kernel_rfl) rfl HF.out
  ·have k3 : decide ((vc : Int) < (ds.length : Int) + 1) = false := by simp; omega
   clear hq hO
   go_enter Tryz.func121, Tryz.ntmps121
   go_upto_region 14 with (fail)
   have hk5 : 5 ≤ rest.length := by omega
   have hks := (hk.bare).spare hk5
   have HKS := Lib.hid hks
   have HK := Lib.hid hk
   have hgq2 : q ≠ g := fun e => hqv (by omega) (by rw [e]; rfl)
   have hov : ∀ lb cb, (callFunc 197 #[.slice (some ⟨q, 0, none⟩) 1 1, .slice (some ⟨g, (i + 1) * 5, none⟩) lb cb]).run Tryz.prog w = .ok (.value (.bool false)) w := fun lb cb => by
    rw [run_callFunc_extern Tryz.func197 (by kernel_rfl) (by kernel_rfl) (by kernel_rfl) (e := Extern.SlicesOverlaps.overlaps #[46, 46] #[4]) (by kernel_rfl),
     Lib.run_overlaps_apart w 46 4 53 Tryz.underlying46 5 (fun w => by kernel_rfl) ⟨q, 0, none⟩ ⟨g, (i + 1) * 5, none⟩ 1 1 lb cb hgq2 53 53 5 (cellsOf 5 fTch ds ++ rest).length (by simp [World.shape?, HQ.out]) (by unfold KBlk at hk; simp [World.shape?, hk]) (by rw [List.length_append]; omega) (froz_h HQ.out 0) (froz_h HQ.out 5)]
    rfl
   have hw1 : IntKind.i64.wrap ((i : Int) + 1) = (i : Int) + 1 := IntWalk.i64_in _ (by omega)
   have hil : i < ds.length := by omega
   have htn : ((i : Int) + 1).toNat = i + 1 := by omega
   have hb1 : (0 : Int) ≤ (i : Int) + 1 := by omega
   have hb2 : ¬ (vc = i + 1) := by omega
   have hb3 : ¬ (vc = i) := by omega
   have hb4 : (i : Int) + 1 ≤ (ds.length : Int) + 1 := by omega
   have hb5 : (i : Int) ≤ (ds.length : Int) + 1 := by omega
   have hb6 : (i : Int) + 1 ≤ (vc : Int) := by omega
   have hsz5 : (Tryz.prog.info? 53).map (·.size) = some 5 := by kernel_rfl
   have hone : ∀ v ∈ cellsOf 5 (fun (c : Nat → Value) j => c j) ((ds.drop i).map fTch), v.oneCell' = true := by
    rw [cells_bare]
    intro v hv
    simp only [cellsOf, List.mem_flatMap, List.mem_map] at hv
    obtain ⟨d, -, m, -, rfl⟩ := hv
    match m with
    | 0 => rfl
    | 1 => rfl
    | 2 => rfl
    | 3 => rfl
    | _ + 4 => rfl
   have hsrc : ∀ j v, (cellsOf 5 (fun (c : Nat → Value) j => c j) ((ds.drop i).map fTch))[j]? = some v → w.drew.cell? ((⟨g, i * 5, none⟩ : Addr).add j) = some v := fun j v hj => by
    rw [cells_bare] at hj
    exact hk.src hi j v hj
   have hks' : KBlk w.drew g 53 5 (fun (c : Nat → Value) j => c j) (ds.map fTch ++ [fun j => rest.getD j undef]) (rest.drop 5) := hks
   have hn1 : ((ds.drop i).map fTch).length = Nat.min (ds.length + 1 - i) (ds.length - i) := by rw [List.length_map, List.length_drop]; simp only [Nat.min_def]; split <;> omega
   have hfit : (i + 1) + ((ds.drop i).map fTch).length ≤ (ds.map fTch ++ [fun j => rest.getD j undef]).length := by simp; omega
   have mixed : Tryz.prog.follows .mixedOrders = true := by kernel_rfl
   have HRL : Hid (vc ≤ maxLen ∧ rest.length = vc * 5 - ds.length * 5 ∧ B0 ≤ g) := ⟨hm, hr, hBg⟩
   have HR1 : Hid ((ds.map fTch ++ [fun j => rest.getD j undef]).take (i + 1) ++ (ds.drop i).map fTch ++ (ds.map fTch ++ [fun j => rest.getD j undef]).drop (i + 1 + ((ds.drop i).map fTch).length) = (ds.take (i + 1) ++ ds.drop i).map fTch) := by
    show _ = _
    have hd : (ds.map fTch ++ [fun j => rest.getD j undef]).drop (i + 1 + ((ds.drop i).map fTch).length) = [] := List.drop_eq_nil_of_le (by rw [List.length_append, List.length_map, List.length_map, List.length_drop]; simp only [List.length_cons, List.length_nil]; omega)
    rw [hd, List.append_nil, List.take_append_of_le_length (by rw [List.length_map]; omega), List.map_append, List.map_take]
   clear hk hks
   go_wp2_with (simp only [hov])
   go_region_law_o (refine step_copyK rfl _ _ 46 46 rfl 53 Tryz.underlying46 hsz5 (i + 1) (ds.length - i) (vc - (i + 1)) ⟨g, i * 5, none⟩ (ds.length + 1 - i) (vc - i) (by simp [Act.eval, Act.put]) (by simp [Act.eval, Act.put]) hks' hn1 hsrc hfit hone ?_; intro w1 hkw hgw; rw [HR1.out] at hkw; have HK1 := Lib.hid hkw.unbare; have HG1 := Lib.hid hgw; clear hkw hgw)
   have HQ1 := Lib.hid ((HG1.out.block q (lt_of_heap HQ.out) (by intro c; injection c with c; exact hgq2 c)).trans HQ.out)
   have hsrc2 : ∀ j v, (cellsOf 5 fTch [u])[j]? = some v → w1.cell? ((⟨q, 0, none⟩ : Addr).add j) = some v := fun j v hj => by
    rw [Addr.add_lit, Nat.zero_add]
    have h9 : ([.int .i64 u.no, .int .i64 u.at_, .string u.source, .slice u.ia u.ids.length u.ic, .slice u.fa u.fields.length u.fc] : List Value)[j]? = some v := hj
    exact cell_h HQ1.out j (by simpa using h9)
   have hone2 : ∀ v ∈ cellsOf 5 fTch [u], v.oneCell' = true := by
    intro v hv
    simp only [cellsOf, List.mem_flatMap, List.mem_map] at hv
    obtain ⟨d, -, m, -, rfl⟩ := hv
    match m with
    | 0 => rfl
    | 1 => rfl
    | 2 => rfl
    | 3 => rfl
    | _ + 4 => rfl
   have hn2 : ([u] : List TchD).length = Nat.min 1 (ds.length + 1 - i) := by simp only [Nat.min_def, List.length_cons, List.length_nil]; split <;> omega
   have hfit2 : i + ([u] : List TchD).length ≤ (ds.take (i + 1) ++ ds.drop i).length := by simp; omega
   have HR2 : Hid ((ds.take (i + 1) ++ ds.drop i).take i ++ [u] ++ (ds.take (i + 1) ++ ds.drop i).drop (i + ([u] : List TchD).length) = ds.take i ++ u :: ds.drop i) := by
    show _ = _
    have hl9 : (ds.take (i + 1)).length = i + 1 := by rw [List.length_take]; omega
    rw [List.take_append_of_le_length (by omega), List.take_take, Nat.min_eq_left (by omega), List.append_assoc]
    congr 1
    simp only [List.length_cons, List.length_nil, Nat.zero_add, List.cons_append, List.nil_append]
    rw [List.drop_append_of_le_length (by omega), List.drop_eq_nil_of_le (by omega), List.nil_append]
   go_wp2_with (with_reducible refine wpList_copyK (k := 5) (f := fTch) (es := [u]) rfl (.tmp 80) (.tmp 81) 46 46 rfl 53 Tryz.underlying46 hsz5 i (ds.length + 1 - i) (vc - i) ⟨q, 0, none⟩ 1 1 rfl rfl HK1.out hn2 hsrc2 hfit2 hone2 ?_; intro w2 hkw hgw; rw [HR2.out] at hkw; have HK2 := Lib.hid hkw; have HG2 := Lib.hid hgw; clear hkw hgw)
   have HF : Hid (InsPost B0 (.slice (some ⟨g, 0, none⟩) ds.length vc) ds u i w (.returned (.slice (some ⟨g, 0, none⟩) (ds.length + 1) vc)) w2) := by
    have hl9 : (ds.take i ++ u :: ds.drop i).length = ds.length + 1 := by simp; omega
    have h := Orow.of_blk HK2.out HRL.out.2.2 HRL.out.1 (by rw [hl9]; omega) (by rw [hl9, List.length_drop]; have := HRL.out.2.1; omega)
    rw [hl9] at h
    refine HPP.out _ _ h ⟨HG2.out.os.trans HG1.out.os, HG2.out.tape.trans HG1.out.tape, HG2.out.output.trans HG1.out.output, Nat.le_trans HG1.out.size HG2.out.size, fun k hk hne => (HG2.out.block k (Nat.lt_of_lt_of_le hk HG1.out.size) hne).trans (HG1.out.block k hk hne)⟩
   go_ret
   exact HF.out
open Go.RowKit
theorem KBlk.over {D : Type} {w : World} {g T k : Nat} {f : D → Nat → Value} {ds : List D} {rest : List Value} (h : KBlk w g T k f ds rest) (i : Nat) (es : List D) (hi : i + es.length ≤ ds.length) : KBlk (w.setCells g (i * k) (cellsOf k f es)) g T k f (ds.take i ++ es ++ ds.drop (i + es.length)) rest := by
 rw [setCells_eq w g]
 unfold KBlk at h ⊢
 have hL := cellsOf_len k f ds
 have hE := cellsOf_len k f es
 have hm : i * k + es.length * k ≤ ds.length * k := by rw [← Nat.add_mul]; exact Nat.mul_le_mul_right _ hi
 rw [setK_heap w g (i * k) _ h (by simp only [List.size_toArray, List.length_append]; omega)]
 congr 3
 have e : cellsOf k f ds = cellsOf k f (ds.take i) ++ cellsOf k f (ds.drop i) := by rw [← cellsOf_split, List.take_append_drop]
 have l1 : (cellsOf k f (ds.take i)).length = i * k := by rw [cellsOf_len, List.length_take]; congr 1; omega
 have e2 : cellsOf k f (ds.drop i) = cellsOf k f ((ds.drop i).take es.length) ++ cellsOf k f (ds.drop (i + es.length)) := by
  rw [← cellsOf_split]
  congr 1
  rw [show ds.drop (i + es.length) = (ds.drop i).drop es.length by rw [List.drop_drop], List.take_append_drop]
 have l2 : (cellsOf k f ((ds.drop i).take es.length)).length = es.length * k := by rw [cellsOf_len, List.length_take, List.length_drop]; congr 1; omega
 have e3 : cellsOf k f (ds.take i ++ es ++ ds.drop (i + es.length)) = cellsOf k f (ds.take i) ++ cellsOf k f es ++ cellsOf k f (ds.drop (i + es.length)) := by
  unfold cellsOf
  rw [List.flatMap_append, List.flatMap_append]
 rw [e3, e, e2]
 simp only [List.append_assoc]
 rw [List.take_left' l1, hE]
 congr 2
 rw [show i * k + es.length * k = (cellsOf k f (ds.take i)).length + (cellsOf k f ((ds.drop i).take es.length)).length by rw [l1, l2]]
 rw [List.drop_append]
 simp
def DelPost (B0 : Nat) (v : Value) (ds : List TchD) (i : Nat) (w : World) (e : Ending) (w' : World) : Prop := ∃ v', e = .returned v' ∧ Orow w' B0 53 5 fTch v' (ds.take i ++ ds.drop (i + 1)) ∧ w.grownBy w' v.ownBlock
set_option maxHeartbeats 4000000 in
set_option maxRecDepth 100000 in
theorem delete_Tch (B0 : Nat) (v : Value) (ds : List TchD) (w : World) (hO : Orow w B0 53 5 fTch v ds) (i : Nat) (hi : i < ds.length) (hl : ds.length ≤ 100000) :
  Calls Tryz.prog 124 #[v, .int .i64 i, .int .i64 ((i : Int) + 1)] w (DelPost B0 v ds i w) := by
 obtain ⟨i0, hi0, hz0, hz1, hz2⟩ := info_parts infoTch
 obtain ⟨g, vc, rest, hv, hle, hBg, hgq, hm, hk, hr⟩ := hO.form (by intro e; subst e; simp at hi)
 subst hv
 have HPP : Hid (∀ v' w', Orow w' B0 53 5 fTch v' (ds.take i ++ ds.drop (i + 1)) → w.grownBy w' (Value.slice (some ⟨g, 0, none⟩) ds.length vc).ownBlock → DelPost B0 (.slice (some ⟨g, 0, none⟩) ds.length vc) ds i w (.returned v') w') := fun v' w' h1 h2 => ⟨v', rfl, h1, h2⟩
 have hii : (i : Int) < ds.length := by omega
 have k1 : ((i : Int) == (i : Int) + 1) = false := beq_eq_false_iff_ne.2 (by omega)
 have k2 : ¬ ((i : Int) = (i : Int) + 1) := by omega
 have htn : ((i : Int) + 1).toNat = i + 1 := by omega
 have hb1 : (0 : Int) ≤ (i : Int) + 1 := by omega
 have hb2 : (i : Int) ≤ (i : Int) + 1 := by omega
 have hb3 : (i : Int) + 1 ≤ ds.length := by omega
 have hb4 : ¬ (ds.length = i) := by omega
 have hb5 : ¬ (vc = i) := by omega
 have HK := Lib.hid hk
 clear hO
 go_enter Tryz.func124, Tryz.ntmps124
 go_upto_region 5 with (fail)
 have mixed : Tryz.prog.follows .mixedOrders = true := by kernel_rfl
 have hnl : (cellsOf 5 fTch (ds.drop (i + 1))).length = (ds.length - (i + 1)) * 5 := by rw [cellsOf_len, List.length_drop]
 have hone : ∀ v ∈ cellsOf 5 fTch (ds.drop (i + 1)), v.oneCell' = true := by
  intro v hv
  simp only [cellsOf, List.mem_flatMap, List.mem_map] at hv
  obtain ⟨d, -, m, -, rfl⟩ := hv
  match m with
  | 0 => rfl
  | 1 => rfl
  | 2 => rfl
  | 3 => rfl
  | _ + 4 => rfl
 have hsrc : ∀ j v, (cellsOf 5 fTch (ds.drop (i + 1)))[j]? = some v → w.drew.cell? ((⟨g, (i + 1) * 5, none⟩ : Addr).add j) = some v := fun j v hj => hk.src (by omega) j v hj
 have hsp : ∀ j, j < (cellsOf 5 fTch (ds.drop (i + 1))).length → (w.drew.cell? ⟨g, 0 + i * 5 + j, none⟩).isSome = true ∧ w.drew.frozen? ⟨g, 0 + i * 5 + j, none⟩ = false := fun j hj => by
  rw [hnl] at hj
  refine ⟨?_, hk.frozen _⟩
  have h := hk.cell (i + j / 5) (j % 5) (by omega) (Nat.mod_lt _ (by omega))
  rw [show (i + j / 5) * 5 + j % 5 = 0 + i * 5 + j by omega] at h
  show (w.cell? _).isSome = true
  rw [h]
  rfl
 obtain ⟨W2, hW2⟩ : ∃ W2, W2 = w.drew.setCells g (0 + i * 5) (cellsOf 5 fTch (ds.drop (i + 1))) := ⟨_, rfl⟩
 have hK2 : KBlk W2 g 53 5 fTch (ds.take i ++ ds.drop (i + 1) ++ ds.drop (i + (ds.drop (i + 1)).length)) rest := by
  rw [hW2, Nat.zero_add]
  exact KBlk.over (w := w.drew) hk i _ (by rw [List.length_drop]; omega)
 have hG2 : w.grownBy W2 (some g) := by rw [hW2, setCells_eq w]; exact setK_grown _ _ ⟨rfl, rfl, rfl, Nat.le_refl _, fun _ _ _ => rfl⟩
 have hlen2 : (ds.take i ++ ds.drop (i + 1) ++ ds.drop (i + (ds.drop (i + 1)).length)).length = ds.length := by simp; omega
 obtain ⟨es, hes⟩ : ∃ es, es = ds.take i ++ ds.drop (i + 1) ++ ds.drop (i + (ds.drop (i + 1)).length) := ⟨_, rfl⟩
 rw [← hes] at hK2 hlen2
 have htk : es.take (ds.length - 1) = ds.take i ++ ds.drop (i + 1) := by
  rw [hes, List.take_append_of_le_length (by simp; omega), List.take_of_length_le (by simp; omega)]
 obtain ⟨zc, hz⟩ : ∃ z : Value, z = .agg #[.int .i64 0, .int .i64 0, .string ⟨#[]⟩, .slice none 0 0, .slice none 0 0] := ⟨_, rfl⟩
 have hzs : zc.cells.size = 5 := by rw [hz]; rfl
 obtain ⟨l, hll⟩ : ∃ l, l = ds.length - 1 := ⟨_, rfl⟩
 have hl1 : l + 1 = ds.length := by omega
 have hcl : ∀ ty, (Builtin.clear_ #[46] ty #[.slice (some ⟨g, l * 5, none⟩) 1 (vc - l)]).run Tryz.prog W2 = .ok (.tuple #[]) (setK W2 g (l * 5) (Builtin.zeroCells zc.cells 1).toList) :=
  fun ty => run_clear_rows W2 _ _ ty zc Tryz.underlying46 (fun w => by rw [hz]; kernel_rfl) 5 hzs (by omega) (by rw [hz]; simp [Value.cells, Value.oneCell']) g (l * 5) _ _ (by omega) (fun q hq => by
   have h1 := hK2.cell l q (by omega) (by omega)
   rw [h1]; rfl) (fun q hq => hK2.frozen _)
 have hKC := hK2.cut (i := l) (by omega) (Builtin.zeroCells zc.cells 1).toList (by rw [Array.length_toList, size_zeroCells, hzs, hlen2, ← hl1, Nat.add_sub_cancel_left])
 have hGC := setK_grown (l * 5) (Builtin.zeroCells zc.cells 1).toList hG2
 have hLC : (Builtin.zeroCells zc.cells 1).toList.length = 1 * 5 := by rw [Array.length_toList, size_zeroCells, hzs]
 rw [hll, htk] at hKC
 rw [← hll] at hKC
 have hlt : (ds.take i ++ ds.drop (i + 1)).length = l := by simp; omega
 have HF : Hid (DelPost B0 (.slice (some ⟨g, 0, none⟩) ds.length vc) ds i w (.returned (.slice (some ⟨g, 0, none⟩) l vc)) (setK W2 g (l * 5) (Builtin.zeroCells zc.cells 1).toList)) := by
  have h := Orow.of_blk (cap := vc) hKC hBg hm (by omega) (by rw [List.length_append, hLC, hr, hlt]; omega)
  rw [hlt] at h
  exact HPP.out _ _ h hGC
 have hsum : i + (ds.length - (i + 1)) = l := by omega
 have hd1 : ds.length - l = 1 := by omega
 have hli : (l : Int) ≤ (ds.length : Int) := by omega
 have hlv : ¬ (vc = l) := by omega
 have hroom : i + (ds.length - (i + 1)) ≤ vc := by omega
 have hln : (ds.length : Int) ≤ (vc : Int) := by omega
 have hiv : (i : Int) ≤ (vc : Int) := by omega
 have hiv2 : i ≤ vc := by omega
 clear hk hK2 hG2 hlen2 htk hzs hKC hGC hLC hlt hm hr HK hes hz hll
 generalize setK W2 g (l * 5) (Builtin.zeroCells zc.cells 1).toList = W9 at *
 by_cases hv1 : vc = i + 1
 ·subst hv1
  have hsrc0 : ∀ j v, (cellsOf 5 fTch (ds.drop (i + 1)))[j]? = some v → w.drew.cell? ((⟨g, 0, none⟩ : Addr).add j) = some v := fun j v hj => by
   have : (cellsOf 5 fTch (ds.drop (i + 1))).length = 0 := by rw [hnl]; omega
   rw [List.eq_nil_of_length_eq_zero this] at hj
   cases hj
  go_region_law_o (refine step_append_room rfl _ _ 46 rfl 53 i0 5 Tryz.underlying46 hi0 hz1 g 0 i (i + 1) (by simp [Act.eval, Act.put]) ⟨g, 0, none⟩ (ds.length - (i + 1)) 0 (cellsOf 5 fTch (ds.drop (i + 1))) (by simp [Act.eval, Act.put] <;> omega) hnl hsrc0 hone hroom hsp ?_; rw [hsum, ← hW2]; clear hW2 hnl hsrc hsrc0 hone hroom hsp)
  go_wp2_with fail
  all_goals (go_ret; exact HF.out)
 ·go_region_law_o (refine step_append_room rfl _ _ 46 rfl 53 i0 5 Tryz.underlying46 hi0 hz1 g 0 i vc (by simp [Act.eval, Act.put]) ⟨g, (i + 1) * 5, none⟩ (ds.length - (i + 1)) (vc - (i + 1)) (cellsOf 5 fTch (ds.drop (i + 1))) (by simp [Act.eval, Act.put]) hnl hsrc hone hroom hsp ?_; rw [hsum, ← hW2]; clear hW2 hnl hsrc hone hroom hsp)
  go_wp2_with fail
  all_goals (go_ret; exact HF.out)
end Go.Proofs.YtbidhpgjmcedaaaGreatDoor
