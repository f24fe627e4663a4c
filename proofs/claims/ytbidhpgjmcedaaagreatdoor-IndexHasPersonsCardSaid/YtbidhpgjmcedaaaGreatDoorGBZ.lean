/- Texts of this claim, put together: Remove, CpyS, CloneFd, CopyTch, CloneInt. -/
import Derived.Test.YtbidhpgjmcedaaaGreatDoorGBX
import Derived.Test.YtbidhpgjmcedaaaGreatDoorGBU
import Derived.Test.YtbidhpgjmcedaaaGreatDoorGBW
import Derived.Test.YtbidhpgjmcedaaaGreatDoorGBR
import Derived.Test.YtbidhpgjmcedaaaGreatDoorGAI
import Derived.Test.YtbidhpgjmcedaaaGreatDoorGAB
import Derived.Test.YtbidhpgjmcedaaaGreatDoorGAH
import Derived.Test.YtbidhpgjmcedaaaGreatDoorGAC
import Derived.StillTailTactics
import Derived.Deep.Cut
import Derived.Test.YtbidhpgjmcedaaaGreatDoorGAW
import Derived.Test.YtbidhpgjmcedaaaGreatDoorGAZ
import Derived.Test.YtbidhpgjmcedaaaGreatDoorGBI
import Derived.Test.YtbidhpgjmcedaaaGreatDoorGAE
import Derived.Laws.Rows
namespace Go.Proofs.YtbidhpgjmcedaaaGreatDoor
set_option linter.unusedVariables false
open Go.RowKit
def ChgPost (r : RulD) (xb : Nat) (vs : List TchD) (H : Frz) (w : World) (e : Ending) (w' : World) : Prop :=
 ∃ (A6 : Option Addr) (n6 c6 : Nat) (A : Option Addr) (cap : Nat) (us : List TchD) (Ap : Option Addr) (cp : Nat) (ps : List PerD) (rr : List Nat), e = .returned (.tuple #[.slice A6 n6 c6, .int .i64 0]) ∧ us.map bare = vs.map bare ∧ w'.heap[xb]? = some (.cells (idxCells r (.slice A us.length cap) (.slice Ap ps.length cp)) 171 (0, 0)) ∧
  TchIn (H.all w' w.heap.size) A us ∧ PerIn (H.all w' w.heap.size) Ap ps ∧ Uf (Share (JD r us) us) rr ∧ PersQ (JD r us) us (repN rr) ps ∧ w.grownBy w' (some xb)
set_option maxHeartbeats 4000000 in
set_option maxRecDepth 100000 in
theorem remove_any (H : Frz) (xb : Nat) (r : RulD) (A : Option Addr) (cap : Nat) (us : List TchD) (Ap : Option Addr) (cp : Nat) (ps : List PerD) (w : World) (hH : H.In w) (hx : H xb = none) (ho : w.heap[xb]? = some (.cells (idxCells r (.slice A us.length cap) (.slice Ap ps.length cp)) 171 (0, 0)))
  (hR : RulIn H r) (hr : RightR r) (hT : TchIn H A us) (hP : PerIn H Ap ps) (hps : PsOk ps) (hl : us.length ≤ 100) (hus : ∀ u ∈ us, RightT u) (hno : us.Pairwise fun a b => a.no < b.no) (i : Nat) (hi : i < us.length) :
  Calls Tryz.prog 48 #[.pointer (some ⟨xb, 0, none⟩), .int .i64 us[i].no] w (ChgPost r xb (us.take i ++ us.drop (i + 1)) H w) := by
 have HNM := Lib.hid (numbered_at H A cap us w hH hT.1 (by omega) hno i hi)
 have HCL := Lib.hid (fun W (hW : H.In W) => clone_Tch H fTch us (fun d _ m => by match m with | 0 => rfl | 1 => rfl | 2 => rfl | 3 => rfl | _ + 4 => rfl) A cap W hW hT.1 (by omega))
 have HH := Lib.hid hH
 have HX := Lib.hid hx
 have HO := Lib.hid ho
 have HRI := Lib.hid hR
 have HRR := Lib.hid hr
 have HTI := Lib.hid hT
 have HPI := Lib.hid hP
 have HPO := Lib.hid hps
 have HUS := Lib.hid hus
 have HPP : Hid (∀ (w' : World) (A6 : Option Addr) (n6 c6 : Nat) (A : Option Addr) (cap : Nat) (vs : List TchD) (Ap : Option Addr) (cp : Nat) (ps : List PerD) (rr : List Nat), vs.map bare = (us.take i ++ us.drop (i + 1)).map bare → w'.heap[xb]? = some (.cells (idxCells r (.slice A vs.length cap) (.slice Ap ps.length cp)) 171 (0, 0)) →
  TchIn (H.all w' w.heap.size) A vs → PerIn (H.all w' w.heap.size) Ap ps → Uf (Share (JD r vs) vs) rr → PersQ (JD r vs) vs (repN rr) ps → w.grownBy w' (some xb) → ChgPost r xb (us.take i ++ us.drop (i + 1)) H w (.returned (.tuple #[.slice A6 n6 c6, .int .i64 0])) w') := fun w' A6 n6 c6 A cap vs Ap cp ps rr h1 h2 h3 h4 h5 h6 h7 => ⟨A6, n6, c6, A, cap, vs, Ap, cp, ps, rr, rfl, h1, h2, h3, h4, h5, h6, h7⟩
 have x4 := cell_h ho 4 (v := .slice A us.length cap) rfl
 have hiw : IntKind.i64.wrap ((i : Int) + 1) = (i : Int) + 1 := IntWalk.i64_in _ (by omega)
 clear hH hx ho hR hr hT hP hps hus hno
 obtain ⟨no, hnn⟩ : ∃ n, n = us[i].no := ⟨_, rfl⟩
 rw [← hnn] at HNM ⊢
 clear hnn
 go_enter Tryz.func48, Tryz.ntmps48
 go_wp2_with fail
 refine HNM.out.mono ?_
 rintro e W2 ⟨rfl, hb2⟩
 have HB2 := Lib.hid hb2
 have HIN2 := Lib.hid (HH.out.below hb2)
 have y4 := lift_cell x4 _ hb2
 clear hb2 x4 HNM
 go_wp2_with fail
 refine (HCL.out W2 HIN2.out).mono ?_
 rintro e W3 ⟨⟨v, rfl, hO⟩, hb3⟩
 have HB3 := Lib.hid (HB2.out.trans (hb3.mono HB2.out.size))
 have HIN3 := Lib.hid (HIN2.out.below hb3)
 have HDL := Lib.hid (delete_Tch W2.heap.size v us W3 hO i hi (by omega))
 have HOB : Hid (∀ g, v.ownBlock = some g → w.heap.size ≤ g) := fun g hg => Nat.le_trans HB2.out.size (hO.lt hg).1
 clear y4 hO hb3 HCL HIN2
 go_wp2_with fail
 refine HDL.out.mono ?_
 rintro e W4 ⟨v', rfl, hO4, hg4⟩
 have HB4 := Lib.hid (Below.mk9 HB3.out hg4 HOB.out)
 have HIN4 := Lib.hid (HH.out.below HB4.out)
 have HXL : Hid (xb < w.heap.size) := lt_of_heap HO.out
 obtain ⟨A4, c4, e4, -, hr4⟩ := hO4.memN (n := w.heap.size) HB2.out.size
 subst e4
 obtain ⟨vs, hvs⟩ : ∃ vs, vs = us.take i ++ us.drop (i + 1) := ⟨_, rfl⟩
 rw [← hvs] at hr4 ⊢
 have HVS := Lib.hid hvs
 have hsub : vs.Sublist us := by
  have h1 : us = us.take i ++ us.drop i := (List.take_append_drop i us).symm
  rw [hvs]
  conv => rhs; rw [h1]
  exact (List.Sublist.refl _).append (by rw [List.drop_eq_getElem_cons hi]; exact List.sublist_cons_self _ _)
 have HSB := Lib.hid hsub
 have hle4 : H.Le (H.all W4 w.heap.size) := Frz.le_all HH.out (Nat.le_refl _)
 have HT4 : Hid (TchIn (H.all W4 w.heap.size) A4 vs) := ⟨hr4.le newH_all, fun t ht => ⟨(HTI.out.2 t (hsub.subset ht)).1.le hle4, (HTI.out.2 t (hsub.subset ht)).2.le hle4⟩⟩
 have HO4 := Lib.hid ((HB4.out.block xb HXL.out).trans HO.out)
 have HBC := Lib.hid (become_any (H.all W4 w.heap.size) xb r A4 c4 vs Ap cp ps (.slice A us.length cap) W4 (Frz.In.all HIN4.out _) (by rw [Frz.all_lt HXL.out]; exact HX.out) HO4.out (HRI.out.le hle4) HRR.out HT4.out ⟨HPI.out.1.le hle4, fun p hp => ⟨(HPI.out.2 p hp).1.le hle4, (HPI.out.2 p hp).2.le hle4⟩⟩ HPO.out (Nat.le_trans hsub.length_le hl) (fun u hu => HUS.out u (hsub.subset hu)))
 clear hO4 hg4 hr4 hsub hle4 HDL hvs
 go_wp2_with fail
 refine HBC.out.mono ?_
 rintro e W5 ⟨A6, n6, c6, Aq, cq, qs, rr, rfl, ho5, hp5, hu5, hq5, hg5⟩
 have hlA : (H.all W4 w.heap.size).Le (H.all W5 w.heap.size) := fun b o h => by
  unfold Frz.all at h ⊢
  by_cases g : b < w.heap.size
  ·rw [if_pos g] at h ⊢; exact h
  ·rw [if_neg g] at h ⊢
   exact (hg5.block b (lt_of_heap h) (by intro c; injection c with c; have := HXL.out; omega)).trans h
 have hlP : (newH W4.heap.size W5).Le (H.all W5 w.heap.size) := fun b o h => by
  unfold newH at h
  unfold Frz.all
  by_cases g : b < W4.heap.size
  ·rw [if_pos g] at h; cases h
  ·rw [if_neg g] at h
   rw [if_neg (by have := HB4.out.size; omega)]
   exact h
 have HF := Lib.hid (HPP.out W5 A6 n6 c6 A4 c4 vs Aq cq qs rr (by rw [HVS.out]) ho5 ⟨HT4.out.1.le hlA, fun t ht => ⟨(HT4.out.2 t ht).1.le hlA, (HT4.out.2 t ht).2.le hlA⟩⟩ (hp5.le hlP) hu5 hq5 ⟨hg5.os.trans HB4.out.os, hg5.tape.trans HB4.out.tape, hg5.output.trans HB4.out.output, Nat.le_trans HB4.out.size hg5.size, fun k hk hne => (hg5.block k (Nat.lt_of_lt_of_le hk HB4.out.size) hne).trans (HB4.out.block k hk)⟩)
 clear ho5 hp5 hu5 hq5 hg5 hlA hlP HBC
 go_wp2_with fail
 exact bodyPost_ret (by kernel_rfl) rfl HF.out
open Go.RowKit
structure CpJ (W0 : World) (tb : Nat) (T : TypeId) (mk : Value → Array Value) (old : Value) (G : Value → World → Prop) (L : Array Bool) (w : World) : Prop where
 gr : W0.grownBy w (some tb)
 c : ∃ X, w.heap[tb]? = some (.cells (mk X) T (0, 0)) ∧ (L.getD 7 false = false → X = old) ∧ (L.getD 7 false = true → G X w)
 l2 : L.getD 2 false = true → L.getD 1 false = true
 l7 : L.getD 7 false = true → L.getD 2 false = true
section
variable {W0 w w' : World} {tb : Nat} {T : TypeId} {mk : Value → Array Value} {old : Value} {G : Value → World → Prop} {L : Array Bool}
theorem getD_rep (m k : Nat) : (Array.replicate m false).getD k false = false := by
 rw [Array.getD_eq_getD_getElem?, Array.getElem?_replicate]
 split <;> rfl
theorem CpJ.start (h : W0.heap[tb]? = some (.cells (mk old) T (0, 0))) (m : Nat) : CpJ W0 tb T mk old G (Array.replicate m false) W0.drew :=
 ⟨⟨rfl, rfl, rfl, Nat.le_refl _, fun _ _ _ => rfl⟩, ⟨old, h, fun _ => rfl, fun e => by rw [getD_rep] at e; (cases e)⟩, fun e => by rw [getD_rep] at e; (cases e), fun e => by rw [getD_rep] at e; (cases e)⟩
theorem CpJ.step (h : CpJ W0 tb T mk old G L w) (hG : ∀ X, Below w.heap.size w w' → G X w → G X w') (hb : Below w.heap.size w w') {i : Nat} (h7 : i ≠ 7) (h2 : i = 2 → L.getD 1 false = true) : CpJ W0 tb T mk old G (L.setIfInBounds i true) w' := by
 obtain ⟨X, e1, e2, e3⟩ := h.c
 have k7 : (L.setIfInBounds i true).getD 7 false = L.getD 7 false := getD_set_ne false h7
 refine ⟨⟨hb.os.trans h.gr.os, hb.tape.trans h.gr.tape, hb.output.trans h.gr.output, Nat.le_trans h.gr.size hb.size, fun k hk hne => (hb.block k (Nat.lt_of_lt_of_le hk h.gr.size)).trans (h.gr.block k hk hne)⟩, ⟨X, (hb.block tb (lt_of_heap e1)).trans e1, fun e => e2 (by rwa [k7] at e), fun e => hG X hb (e3 (by rwa [k7] at e))⟩, fun e => ?_, fun e => ?_⟩
 ·by_cases c : i = 1
  ·subst c
   have e0 : L.getD 2 false = true := by rwa [getD_set_ne false (by decide)] at e
   have h1 := h.l2 e0
   rw [Array.getD_eq_getD_getElem?] at h1 ⊢
   rw [Array.getElem?_setIfInBounds]
   split
   ·split
    ·rfl
    ·rename_i hx hy
     rw [Array.getElem?_eq_none (by omega)] at h1
     cases h1
   ·exact h1
  ·rw [getD_set_ne false c]
   by_cases c2 : i = 2
   ·exact h2 c2
   ·exact h.l2 (by rwa [getD_set_ne false c2] at e)
 ·rw [k7] at e
  have e0 := h.l7 e
  by_cases c2 : i = 2
  ·subst c2
   rw [Array.getD_eq_getD_getElem?] at e0 ⊢
   rw [Array.getElem?_setIfInBounds]
   split
   ·split
    ·rfl
    ·rename_i hx hy
     rw [Array.getElem?_eq_none (by omega)] at e0
     cases e0
   ·exact e0
  ·rw [getD_set_ne false c2]
   exact e0
theorem CpJ.old_ (h : CpJ W0 tb T mk old G L w) (h1 : L.getD 1 true = false) : w.heap[tb]? = some (.cells (mk old) T (0, 0)) := by
 obtain ⟨X, e1, e2, e3⟩ := h.c
 have h0 : L.getD 1 false = false := by
  rw [Array.getD_eq_getD_getElem?] at h1 ⊢
  cases e : L[1]? with
  | none => rfl
  | some x => rw [e] at h1; exact h1
 have h7 : L.getD 7 false = false := by
  cases c : L.getD 7 false with
  | false => rfl
  | true => rw [h.l2 (h.l7 c)] at h0; cases h0
 rw [e1, e2 h7]
theorem CpJ.store (h : CpJ W0 tb T mk old G L w) (hs : L.size = 10) (h2 : L.getD 2 false = true) {v : Value} (hg : w.grownBy w' (some tb)) (hn : w'.heap[tb]? = some (.cells (mk v) T (0, 0))) (hv : G v w') : CpJ W0 tb T mk old G (L.setIfInBounds 7 true) w' := by
 refine ⟨⟨hg.os.trans h.gr.os, hg.tape.trans h.gr.tape, hg.output.trans h.gr.output, Nat.le_trans h.gr.size hg.size, fun k hk hne => (hg.block k (Nat.lt_of_lt_of_le hk h.gr.size) hne).trans (h.gr.block k hk hne)⟩, ⟨v, hn, fun e => ?_, fun _ => hv⟩, fun e => ?_, fun _ => by rw [getD_set_ne false (by decide)]; exact h2⟩
 ·rw [Array.getD_eq_getD_getElem?, Array.getElem?_setIfInBounds] at e
  simp [hs] at e
 ·rw [getD_set_ne false (by decide)] at e ⊢
  exact h.l2 e
end
open Go.RowKit
theorem infoFd : (Tryz.prog.info? 78).map (fun i => (i.zero, i.size, i.bytes)) = some (some (.agg #[.string ⟨#[]⟩, .int .i64 0, .string ⟨#[]⟩, .int .i64 0]), 4, 48) := by kernel_rfl
section
variable {D : Type}
set_option maxHeartbeats 1000000 in
set_option maxRecDepth 100000 in
theorem clone_Fd (H : Frz) (f : D → Nat → Value) (ds : List D) (hf : ∀ d ∈ ds, ∀ m, (f d m).oneCell' = true) (A : Option Addr) (cap : Nat) (w : World) (hH : H.In w) (hR : Rw H A 4 f ds) (hl : ds.length ≤ 1000000) :
  Calls Tryz.prog 131 #[.slice A ds.length cap] w fun e w' => (∃ v, e = .returned v ∧ Orow w' w.heap.size 78 4 f v ds) ∧ Below w.heap.size w w' := by
 obtain ⟨i0, hi0, hz0, hz1, hz2⟩ := info_parts infoFd
 cases A with
 | none =>
  have hd : ds = [] := by
   cases ds with
   | nil => rfl
   | cons d ds => obtain ⟨b, off, e, _⟩ := hR 0 (by simp); cases e
  subst hd
  have hn := fun wx => Lib.run_eql_slice_nil (P := Tryz.prog) wx 28 78 none 0 cap 0 0 Tryz.underlying28
  clear hR hH hf
  go_enter Tryz.func131, Tryz.ntmps131
  go_wp2_with fail
  go_ret
  exact ⟨⟨_, rfl, Orow.nil _ _ _ _ _⟩, Below.refl _ _⟩
 | some ad =>
  have hnews : Hid (∀ j u, (cellsOf 4 f ds)[j]? = some u → w.cell? (ad.add j) = some u) := by
   intro j u hu
   have hj : j < ds.length * 4 := by have := (List.getElem?_eq_some_iff.1 hu).1; rwa [cellsOf_len] at this
   obtain ⟨b, off, e, _, hc⟩ := hR.at_ hH (i := j / 4) (by omega) (by omega)
   injection e with e
   subst e
   have h2 := hc (j % 4) (Nat.mod_lt _ (by omega))
   have h3 := cellsOf_get 4 f ds (j / 4) (j % 4) (by omega) (Nat.mod_lt _ (by omega))
   have e1 : j / 4 * 4 + j % 4 = j := by omega
   rw [e1, hu] at h3
   rw [Addr.add_lit, show off + j = off + j / 4 * 4 + j % 4 from by omega, h2]
   exact h3.symm
  have hone : Hid (∀ u ∈ cellsOf 4 f ds, u.oneCell' = true) := by
   intro u hu
   simp only [cellsOf, List.mem_flatMap, List.mem_map] at hu
   obtain ⟨d, hd, m, _, rfl⟩ := hu
   exact hf d hd m
  have hlen := Lib.hid (cellsOf_len 4 f ds)
  have hn := fun wx => Lib.run_eql_slice_nil (P := Tryz.prog) wx 28 78 (some ad) ds.length cap 0 0 Tryz.underlying28
  have hown : Hid ((w.alloc (.cells #[] 78)).ownsRow w.heap.size 78 4 (.slice (some ⟨w.heap.size, 0, none⟩) 0 0) 0 []) := ⟨rfl, Or.inr ⟨w.heap.size, 0, #[], rfl, Nat.le_refl _, heap_at rfl, Nat.le_refl _, Nat.zero_le _, rfl, rfl⟩⟩
  have hnews2 : Hid (∀ j u, (cellsOf 4 f ds)[j]? = some u → (w.alloc (.cells #[] 78)).cell? (ad.add j) = some u) := fun j u hu => by
   have := hnews.out j u hu
   exact (World.cell?_alloc_lt w _ _ (World.block_lt_of_cell? w _ this)).trans this
  clear hR hH hf hnews
  go_enter Tryz.func131, Tryz.ntmps131
  go_wp2_with (at_builtin; refine wpList_append_own _ rfl _ _ 28 rfl w.heap.size 78 i0 (.agg #[.string ⟨#[]⟩, .int .i64 0, .string ⟨#[]⟩, .int .i64 0]) 4 48 Tryz.underlying28 hi0 hz0 hz1 hz2 rfl (by decide) (.slice (some ⟨w.heap.size, 0, none⟩) 0 0) 0 [] rfl hown.out ad ds.length cap (cellsOf 4 f ds) rfl hlen.out hnews2.out hone.out (by simp only [maxLen]; omega) (by omega) (by simp) ?_; intro v1 w2 o1 g1 b1)
  have O1 : Hid (Orow w2 w.heap.size 78 4 f v1 ds) := by
   show World.ownsRow _ _ _ _ _ _ _
   simpa using o1
  have B1 : Hid (Below w.heap.size w w2) := ((Below.refl _ w).alloc (Nat.le_refl _) _).grown g1 (by simp) (fun q hq => by simp [Value.ownBlock] at hq; omega)
  clear o1 g1 b1
  go_wp2_with fail
  go_ret
  exact ⟨⟨_, rfl, O1.out⟩, B1.out⟩
end
open Go.RowKit
def φCpTch (tb B0 : Nat) (t : TchD) (i : Nat) (v : Value) (W : World) : Prop :=
 match i with
 | 0 => v = .pointer (some ⟨tb, 3, none⟩)
 | 1 => v = .slice t.ia t.ids.length t.ic
 | 2 => Orow W B0 55 2 fId v t.ids
 | 3 => v = .pointer (some ⟨tb, 4, none⟩)
 | 4 => v = .slice t.fa t.fields.length t.fc
 | 5 => Orow W B0 78 4 fFd v t.fields
 | 6 => v = .pointer (some ⟨tb, 3, none⟩)
 | _ => True
theorem φCpTch_mono {tb B0 : Nat} (hb : tb < B0) {t : TchD} (i : Nat) (v : Value) (W W' : World) (_ : i < 8) (he : W.grownBy W' (some tb)) (h : φCpTch tb B0 t i v W) : φCpTch tb B0 t i v W' := by
 match i, h with
 | 0, h => exact h
 | 1, h => exact h
 | 2, h => exact Orow.far h he hb
 | 3, h => exact h
 | 4, h => exact h
 | 5, h => exact Orow.far h he hb
 | 6, h => exact h
 | _ + 7, h => trivial
def CopyTch (t : TchD) (w : World) (e : Ending) (w' : World) : Prop := ∃ (va vb : Value), e = .returned (.agg #[.int .i64 t.no, .int .i64 t.at_, .string t.source, va, vb]) ∧ Orow w' w.heap.size 55 2 fId va t.ids ∧ Orow w' w.heap.size 78 4 fFd vb t.fields ∧ Below w.heap.size w w'
set_option maxHeartbeats 4000000 in
set_option maxRecDepth 100000 in
theorem copyTch_any (H : Frz) (t : TchD) (w : World) (hH : H.In w) (hA : Rw H t.ia 2 fId t.ids) (hB : Rw H t.fa 4 fFd t.fields) (la : t.ids.length ≤ 1000000) (lb : t.fields.length ≤ 1000000) :
  Calls Tryz.prog 123 #[.agg #[.int .i64 t.no, .int .i64 t.at_, .string t.source, .slice t.ia t.ids.length t.ic, .slice t.fa t.fields.length t.fc]] w (CopyTch t w) := by
 have hb1 := new1 (w := w) (.cells #[.int .i64 t.no, .int .i64 t.at_, .string t.source, .slice t.ia t.ids.length t.ic, .slice t.fa t.fields.length t.fc] 53)
 have hb2 := new1 (w := w.alloc (.cells #[.int .i64 t.no, .int .i64 t.at_, .string t.source, .slice t.ia t.ids.length t.ic, .slice t.fa t.fields.length t.fc] 53)) (.cells #[.int .i64 0, .int .i64 0, .string ⟨#[]⟩, .slice none 0 0, .slice none 0 0] 53)
 have HZ : Hid (((w.alloc (.cells #[.int .i64 t.no, .int .i64 t.at_, .string t.source, .slice t.ia t.ids.length t.ic, .slice t.fa t.fields.length t.fc] 53)).alloc (.cells #[.int .i64 0, .int .i64 0, .string ⟨#[]⟩, .slice none 0 0, .slice none 0 0] 53)).heap[w.heap.size + 1]? = some (.cells #[.int .i64 0, .int .i64 0, .string ⟨#[]⟩, .slice none 0 0, .slice none 0 0] 53 (0, 0))) := heap_at (by simp)
 have HT : Hid (((w.alloc (.cells #[.int .i64 t.no, .int .i64 t.at_, .string t.source, .slice t.ia t.ids.length t.ic, .slice t.fa t.fields.length t.fc] 53)).alloc (.cells #[.int .i64 0, .int .i64 0, .string ⟨#[]⟩, .slice none 0 0, .slice none 0 0] 53)).heap[w.heap.size]? = some (.cells #[.int .i64 t.no, .int .i64 t.at_, .string t.source, .slice t.ia t.ids.length t.ic, .slice t.fa t.fields.length t.fc] 53 (0, 0))) := (hb2.block _ (lt_of_heap (heap_alloc_new w (.cells #[.int .i64 t.no, .int .i64 t.at_, .string t.source, .slice t.ia t.ids.length t.ic, .slice t.fa t.fields.length t.fc] 53)))).trans (heap_alloc_new w (.cells #[.int .i64 t.no, .int .i64 t.at_, .string t.source, .slice t.ia t.ids.length t.ic, .slice t.fa t.fields.length t.fc] 53))
 have HBN := Lib.hid (hb1.trans (hb2.mono hb1.size))
 have HIN := Lib.hid (hH.below HBN.out)
 have HCA := Lib.hid (fun W (hW : H.In W) => clone_Id H fId t.ids (fun d _ m => by match m with | 0 => rfl | _ + 1 => rfl) t.ia t.ic W hW hA la)
 have HCB := Lib.hid (fun W (hW : H.In W) => clone_Fd H fFd t.fields (fun d _ m => by match m with | 0 => rfl | 1 => rfl | 2 => rfl | _ + 3 => rfl) t.fa t.fc W hW hB lb)
 have HHW : Hid (∀ b o, H b = some o → b < w.heap.size) := fun b o e => hH.lt e
 have HEN : Hid (∀ (va vb : Value) (w' : World), Orow w' w.heap.size 55 2 fId va t.ids → Orow w' w.heap.size 78 4 fFd vb t.fields → Below w.heap.size w w' → CopyTch t w (.returned (.agg #[.int .i64 t.no, .int .i64 t.at_, .string t.source, va, vb])) w') := fun va vb w' h1 h2 h3 => ⟨va, vb, rfl, h1, h2, h3⟩
 clear hb1 hb2 hH hA hB
 go_enter Tryz.func123, Tryz.ntmps123
 go_upto_region 1 with (fail)
 generalize (w.alloc (.cells #[.int .i64 t.no, .int .i64 t.at_, .string t.source, .slice t.ia t.ids.length t.ic, .slice t.fa t.fields.length t.fc] 53)).alloc (.cells #[.int .i64 0, .int .i64 0, .string ⟨#[]⟩, .slice none 0 0, .slice none 0 0] 53) = W1 at *
 obtain ⟨tb, htb⟩ : ∃ tb, tb = w.heap.size := ⟨_, rfl⟩
 rw [← htb] at HZ HT ⊢
 have HTB : Hid (tb < W1.heap.size ∧ tb + 1 < W1.heap.size ∧ w.heap.size ≤ tb ∧ tb = w.heap.size) := ⟨lt_of_heap HT.out, lt_of_heap HZ.out, by omega, htb⟩
 have HNO : Hid (H tb = none) := by
  cases e : H tb with
  | none => rfl
  | some o => have := HHW.out tb o e; omega
 clear htb
 refine wp_region_concV 8 12 (φCpTch tb W1.heap.size t) (fun L _ W => CpJ W1 tb 53 (fun X => #[.int .i64 t.no, .int .i64 t.at_, .string t.source, X, .slice t.fa t.fields.length t.fc]) (.slice t.ia t.ids.length t.ic) (fun X W => Orow W W1.heap.size 55 2 fId X t.ids) L W) (fun a b => a.grownBy b (some tb)) (by kernel_rfl) (by kernel_rfl) (by rfl) (CpJ.start HT.out _) (φCpTch_mono HTB.out.1) (fun i x w hi e h => ?_) ?_ ?_
 ·have hcs : i = 7 := by
   have : i = 0 ∨ i = 1 ∨ i = 2 ∨ i = 3 ∨ i = 4 ∨ i = 5 ∨ i = 6 ∨ i = 7 := by omega
   rcases this with rfl | rfl | rfl | rfl | rfl | rfl | rfl | rfl <;> first | rfl | exact absurd e (by decide)
  subst hcs
  trivial
 ·intro n o hn ho a W2 L hr hsN hLs hJ hkn
  replace hsN : a.tmps.size = 12 := hsN
  have hcs : n = 0 ∨ n = 1 ∨ n = 2 ∨ n = 3 ∨ n = 4 ∨ n = 5 ∨ n = 6 ∨ n = 7 := by omega
  have hin : H.In W2 := HIN.out.grown hJ.gr HNO.out
  have hGm : ∀ (W' : World) X, Below W2.heap.size W2 W' → Orow W2 W1.heap.size 55 2 fId X t.ids → Orow W' W1.heap.size 55 2 fId X t.ids := fun W' X hb o => o.below hb
  have gB : ∀ W', Below W2.heap.size W2 W' → W2.grownBy W' (some tb) := fun W' hb => ⟨hb.os, hb.tape, hb.output, hb.size, fun k hk _ => hb.block k hk⟩
  have hsz := hJ.gr.size
  rcases hcs with rfl | rfl | rfl | rfl | rfl | rfl | rfl | rfl
  ·obtain rfl := Option.some.inj ho
   have h1 := slotA_of (hkn 1 (by decide) : a.tmps.getD 1 undef = .pointer (some ⟨tb, 0, none⟩))
   clear hkn ho
   simp only [OpV, execOp]
   simp [go_sem, h1]
   exact ⟨rfl, hJ.step (hGm _) (Below.refl _ _) (by decide) (fun c => absurd c (by decide)), gB _ (Below.refl _ _)⟩
  ·obtain rfl := Option.some.inj ho
   have h1 := slotA_of (hkn 3 (by decide) : a.tmps.getD 3 undef = .pointer (some ⟨tb, 3, none⟩))
   have c3 := cell_h (hJ.old_ (mem_ready.1 hr).1) 3 (v := .slice t.ia t.ids.length t.ic) rfl
   clear hkn ho
   simp only [OpV, execOp]
   simp [go_sem, h1, c3]
   exact ⟨rfl, hJ.step (hGm _) (Below.refl _ _) (by decide) (fun c => absurd c (by decide)), gB _ (Below.refl _ _)⟩
  ·obtain rfl := Option.some.inj ho
   have hdep : L.getD 1 false = true := by
    obtain ⟨_, o', ho', hall⟩ := mem_ready.1 hr
    obtain rfl := Option.some.inj ho'
    exact hall { on := 1, ground := Ground.data } (by simp) rfl
   have h1 := slotA_of (hkn 4 (by decide) : a.tmps.getD 4 undef = .slice t.ia t.ids.length t.ic)
   clear hkn ho
   simp only [OpV, execOp]
   simp [go_sem, h1]
   exact (HCA.out W2 hin).mono fun e w'' ⟨⟨v, he, ho⟩, hb⟩ => ⟨v, he, Orow.mono ho hsz, hJ.step (hGm _) hb (by decide) (fun _ => hdep), gB _ hb⟩
  ·obtain rfl := Option.some.inj ho
   have h1 := slotA_of (hkn 1 (by decide) : a.tmps.getD 1 undef = .pointer (some ⟨tb, 0, none⟩))
   clear hkn ho
   simp only [OpV, execOp]
   simp [go_sem, h1]
   exact ⟨rfl, hJ.step (hGm _) (Below.refl _ _) (by decide) (fun c => absurd c (by decide)), gB _ (Below.refl _ _)⟩
  ·obtain rfl := Option.some.inj ho
   obtain ⟨X, hX, -⟩ := hJ.c
   have h1 := slotA_of (hkn 6 (by decide) : a.tmps.getD 6 undef = .pointer (some ⟨tb, 4, none⟩))
   have c4 := cell_h hX 4 (v := .slice t.fa t.fields.length t.fc) rfl
   clear hkn ho hX
   simp only [OpV, execOp]
   simp [go_sem, h1, c4]
   exact ⟨rfl, hJ.step (hGm _) (Below.refl _ _) (by decide) (fun c => absurd c (by decide)), gB _ (Below.refl _ _)⟩
  ·obtain rfl := Option.some.inj ho
   have h1 := slotA_of (hkn 7 (by decide) : a.tmps.getD 7 undef = .slice t.fa t.fields.length t.fc)
   clear hkn ho
   simp only [OpV, execOp]
   simp [go_sem, h1]
   exact (HCB.out W2 hin).mono fun e w'' ⟨⟨v, he, ho⟩, hb⟩ => ⟨v, he, Orow.mono ho hsz, hJ.step (hGm _) hb (by decide) (fun c => absurd c (by decide)), gB _ hb⟩
  ·obtain rfl := Option.some.inj ho
   have h1 := slotA_of (hkn 1 (by decide) : a.tmps.getD 1 undef = .pointer (some ⟨tb, 0, none⟩))
   clear hkn ho
   simp only [OpV, execOp]
   simp [go_sem, h1]
   exact ⟨rfl, hJ.step (hGm _) (Below.refl _ _) (by decide) (fun c => absurd c (by decide)), gB _ (Below.refl _ _)⟩
  ·obtain rfl := Option.some.inj ho
   have hdep : L.getD 2 false = true := by
    obtain ⟨_, o', ho', hall⟩ := mem_ready.1 hr
    obtain rfl := Option.some.inj ho'
    exact hall { on := 2, ground := Ground.data } (by simp) rfl
   obtain ⟨X, hX, -⟩ := hJ.c
   have oV : Orow W2 W1.heap.size 55 2 fId (a.tmps.getD 5 undef) t.ids := hkn 5 (by decide)
   obtain ⟨A9, c9, hv9, -⟩ := oV.slice
   rw [hv9] at oV
   have h1 := slotA_of (hkn 9 (by decide) : a.tmps.getD 9 undef = .pointer (some ⟨tb, 3, none⟩))
   have h2 := slotA_of hv9
   have c3 := cell_h hX 3 (v := X) rfl
   have f3 := froz_h hX 3
   have hst : (W2.setCell ⟨tb, 3, none⟩ (.slice A9 t.ids.length c9)).heap[tb]? = some (.cells #[.int .i64 t.no, .int .i64 t.at_, .string t.source, (.slice A9 t.ids.length c9), .slice t.fa t.fields.length t.fc] 53 (0, 0)) := by
    simp [World.setCell, Array.getElem?_modify, hX]
   have hgr : W2.grownBy (W2.setCell ⟨tb, 3, none⟩ (.slice A9 t.ids.length c9)) (some tb) := grown_setC (World.grownBy.refl _ _) _ _
   have oV2 := Orow.far oV hgr HTB.out.1
   clear hkn ho hX hv9
   simp only [OpV, execOp]
   simp [go_sem, h1, h2, c3, f3]
   exact ⟨trivial, hJ.store hLs hdep hgr hst oV2, hgr⟩
 ·intro xv W9 L9 hL9 hJ hgt hφ
  have o2 : Orow W9 W1.heap.size 55 2 fId (xv 2) t.ids := (hφ 2 (by omega)).resolve_right (fun c => (show ¬ ((some 5 : Option Nat) = none) from nofun) c.1)
  have o5 : Orow W9 W1.heap.size 78 4 fFd (xv 5) t.fields := (hφ 5 (by omega)).resolve_right (fun c => (show ¬ ((some 8 : Option Nat) = none) from nofun) c.1)
  obtain ⟨X, hX, -, hG⟩ := hJ.c
  have oX := hG (hL9 7 (by omega))
  obtain ⟨A2, c2, e2, -⟩ := o2.slice
  obtain ⟨A5, c5, e5, -⟩ := o5.slice
  obtain ⟨AX, cX, eX, -⟩ := oX.slice
  subst eX
  rw [e5] at o5
  have hzz := (hJ.gr.block (tb + 1) HTB.out.2.1 (by intro c; injection c with c; omega)).trans HZ.out
  have HOX := Lib.hid oX
  have HO5 := Lib.hid o5
  have HX := Lib.hid hX
  have HZZ := Lib.hid hzz
  have HGR := Lib.hid hJ.gr
  simp only [List.drop_succ_cons, List.drop_zero, List.take_succ_cons, List.take_zero, putAll, Nat.reduceAdd, e2, e5]
  clear e2 e5 o2 o5 oX hX hzz hφ hJ hgt hL9 hG
  generalize xv 0 = y0
  generalize xv 1 = y1
  generalize xv 3 = y3
  generalize xv 4 = y4
  generalize xv 6 = y6
  generalize xv 7 = y7
  have d4 := cell_h HX.out 4 (v := .slice t.fa t.fields.length t.fc) rfl
  have g4 := froz_h HX.out 4
  have HY : Hid ((W9.setCell ⟨tb, 4, none⟩ (.slice A5 t.fields.length c5)).heap[tb]? = some (.cells #[.int .i64 t.no, .int .i64 t.at_, .string t.source, (.slice AX t.ids.length cX), (.slice A5 t.fields.length c5)] 53 (0, 0))) := by
   show _ = _
   simp [World.setCell, Array.getElem?_modify, HX.out]
  have HG2 : Hid (W9.grownBy (W9.setCell ⟨tb, 4, none⟩ (.slice A5 t.fields.length c5)) (some tb)) := grown_setC (World.grownBy.refl _ _) _ _
  go_upto_region 2 with (fail)
  clear d4 g4
  generalize W9.setCell ⟨tb, 4, none⟩ (.slice A5 t.fields.length c5) = W10 at *
  have HQ := Lib.hid ((HG2.out.block (tb + 1) (lt_of_heap HZZ.out) (by intro c; injection c with c; omega)).trans HZZ.out)
  have B1 := Below.mk9 HBN.out HGR.out (fun g e => by injection e with e; have := HTB.out.2.2.1; omega)
  have B2 := Below.mk9 B1 HG2.out (fun g e => by injection e with e; have := HTB.out.2.2.1; omega)
  have OX2 := HOX.out.far HG2.out HTB.out.1
  have O52 := HO5.out.far HG2.out HTB.out.1
  have HS1 : Hid (W10.grownBy ((((((W10.setCell ⟨tb + 1, 0, none⟩ (.int .i64 t.no)).setCell ⟨tb + 1, 1, none⟩ (.int .i64 t.at_)).setCell ⟨tb + 1, 2, none⟩ (.string t.source)).setCell ⟨tb + 1, 3, none⟩ (.slice AX t.ids.length cX)).setCell ⟨tb + 1, 4, none⟩ (.slice A5 t.fields.length c5))) (some (tb + 1))) := (grown_setC (grown_setC (grown_setC (grown_setC (grown_setC (World.grownBy.refl _ _) _ _) _ _) _ _) _ _) _ _)
  have HS2 : Hid (((((((W10.setCell ⟨tb + 1, 0, none⟩ (.int .i64 t.no)).setCell ⟨tb + 1, 1, none⟩ (.int .i64 t.at_)).setCell ⟨tb + 1, 2, none⟩ (.string t.source)).setCell ⟨tb + 1, 3, none⟩ (.slice AX t.ids.length cX)).setCell ⟨tb + 1, 4, none⟩ (.slice A5 t.fields.length c5))).heap[tb + 1]? = some (.cells #[.int .i64 t.no, .int .i64 t.at_, .string t.source, .slice AX t.ids.length cX, .slice A5 t.fields.length c5] 53 (0, 0))) := by
   show _ = _
   simp [World.setCell, Array.getElem?_modify, HQ.out]
  have B3 := Below.mk9 B2 HS1.out (fun g e => by injection e with e; have := HTB.out.2.2.1; omega)
  have HF := Lib.hid (HEN.out _ _ _ ((OX2.far HS1.out HTB.out.2.1).mono HBN.out.size) ((O52.far HS1.out HTB.out.2.1).mono HBN.out.size) B3)
  have m0 := cell_h HY.out 0 (v := (.int .i64 t.no)) rfl
  have m1 := cell_h HY.out 1 (v := (.int .i64 t.at_)) rfl
  have m2 := cell_h HY.out 2 (v := (.string t.source)) rfl
  have m3 := cell_h HY.out 3 (v := (.slice AX t.ids.length cX)) rfl
  have m4 := cell_h HY.out 4 (v := (.slice A5 t.fields.length c5)) rfl
  have q0 := cell_h HQ.out 0 (v := .int .i64 0) rfl
  have f0 := froz_h HQ.out 0
  have q1 := cell_h HQ.out 1 (v := .int .i64 0) rfl
  have f1 := froz_h HQ.out 1
  have q2 := cell_h HQ.out 2 (v := .string ⟨#[]⟩) rfl
  have f2 := froz_h HQ.out 2
  have q3 := cell_h HQ.out 3 (v := .slice none 0 0) rfl
  have f3 := froz_h HQ.out 3
  have q4 := cell_h HQ.out 4 (v := .slice none 0 0) rfl
  have f4 := froz_h HQ.out 4
  clear B1 B2 B3 OX2 O52 HOX HO5 HX HG2 HGR HS1
  go_wp2_with fail
  exact bodyPost_ret (results_cell_row rfl _ _ (tb + 1) 53 _ (0, 0) _ rfl HS2.out Tryz.underlying53 rfl (by kernel_rfl)) rfl HF.out
open Go.RowKit
theorem infoInt : (Tryz.prog.info? 3).map (fun i => (i.zero, i.size, i.bytes)) = some (some (.int .i64 0), 1, 8) := by kernel_rfl
section
variable {D : Type}
set_option maxHeartbeats 1000000 in
set_option maxRecDepth 100000 in
theorem clone_Int (H : Frz) (f : D → Nat → Value) (ds : List D) (hf : ∀ d ∈ ds, ∀ m, (f d m).oneCell' = true) (A : Option Addr) (cap : Nat) (w : World) (hH : H.In w) (hR : Rw H A 1 f ds) (hl : ds.length ≤ 1000000) :
  Calls Tryz.prog 191 #[.slice A ds.length cap] w fun e w' => (∃ v, e = .returned v ∧ Orow w' w.heap.size 3 1 f v ds) ∧ Below w.heap.size w w' := by
 obtain ⟨i0, hi0, hz0, hz1, hz2⟩ := info_parts infoInt
 cases A with
 | none =>
  have hd : ds = [] := by
   cases ds with
   | nil => rfl
   | cons d ds => obtain ⟨b, off, e, _⟩ := hR 0 (by simp); cases e
  subst hd
  have hn := fun wx => Lib.run_eql_slice_nil (P := Tryz.prog) wx 22 3 none 0 cap 0 0 Tryz.underlying22
  clear hR hH hf
  go_enter Tryz.func191, Tryz.ntmps191
  go_wp2_with fail
  go_ret
  exact ⟨⟨_, rfl, Orow.nil _ _ _ _ _⟩, Below.refl _ _⟩
 | some ad =>
  have hnews : Hid (∀ j u, (cellsOf 1 f ds)[j]? = some u → w.cell? (ad.add j) = some u) := by
   intro j u hu
   have hj : j < ds.length * 1 := by have := (List.getElem?_eq_some_iff.1 hu).1; rwa [cellsOf_len] at this
   obtain ⟨b, off, e, _, hc⟩ := hR.at_ hH (i := j / 1) (by omega) (by omega)
   injection e with e
   subst e
   have h2 := hc (j % 1) (Nat.mod_lt _ (by omega))
   have h3 := cellsOf_get 1 f ds (j / 1) (j % 1) (by omega) (Nat.mod_lt _ (by omega))
   have e1 : j / 1 * 1 + j % 1 = j := by omega
   rw [e1, hu] at h3
   rw [Addr.add_lit, show off + j = off + j / 1 * 1 + j % 1 from by omega, h2]
   exact h3.symm
  have hone : Hid (∀ u ∈ cellsOf 1 f ds, u.oneCell' = true) := by
   intro u hu
   simp only [cellsOf, List.mem_flatMap, List.mem_map] at hu
   obtain ⟨d, hd, m, _, rfl⟩ := hu
   exact hf d hd m
  have hlen := Lib.hid (cellsOf_len 1 f ds)
  have hn := fun wx => Lib.run_eql_slice_nil (P := Tryz.prog) wx 22 3 (some ad) ds.length cap 0 0 Tryz.underlying22
  have hown : Hid ((w.alloc (.cells #[] 3)).ownsRow w.heap.size 3 1 (.slice (some ⟨w.heap.size, 0, none⟩) 0 0) 0 []) := ⟨rfl, Or.inr ⟨w.heap.size, 0, #[], rfl, Nat.le_refl _, heap_at rfl, Nat.le_refl _, Nat.zero_le _, rfl, rfl⟩⟩
  have hnews2 : Hid (∀ j u, (cellsOf 1 f ds)[j]? = some u → (w.alloc (.cells #[] 3)).cell? (ad.add j) = some u) := fun j u hu => by
   have := hnews.out j u hu
   exact (World.cell?_alloc_lt w _ _ (World.block_lt_of_cell? w _ this)).trans this
  clear hR hH hf hnews
  go_enter Tryz.func191, Tryz.ntmps191
  go_wp2_with (at_builtin; refine wpList_append_own _ rfl _ _ 22 rfl w.heap.size 3 i0 (.int .i64 0) 1 8 Tryz.underlying22 hi0 hz0 hz1 hz2 rfl (by decide) (.slice (some ⟨w.heap.size, 0, none⟩) 0 0) 0 [] rfl hown.out ad ds.length cap (cellsOf 1 f ds) rfl hlen.out hnews2.out hone.out (by simp only [maxLen]; omega) (by omega) (by simp) ?_; intro v1 w2 o1 g1 b1)
  have O1 : Hid (Orow w2 w.heap.size 3 1 f v1 ds) := by
   show World.ownsRow _ _ _ _ _ _ _
   simpa using o1
  have B1 : Hid (Below w.heap.size w w2) := ((Below.refl _ w).alloc (Nat.le_refl _) _).grown g1 (by simp) (fun q hq => by simp [Value.ownBlock] at hq; omega)
  clear o1 g1 b1
  go_wp2_with fail
  go_ret
  exact ⟨⟨_, rfl, O1.out⟩, B1.out⟩
end
end Go.Proofs.YtbidhpgjmcedaaaGreatDoor
