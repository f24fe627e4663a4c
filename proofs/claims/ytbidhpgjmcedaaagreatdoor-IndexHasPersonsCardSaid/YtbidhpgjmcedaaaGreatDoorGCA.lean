/- Texts of this claim, put together: CloneSur, CloneStr, CopyRul. -/
import Derived.Test.YtbidhpgjmcedaaaGreatDoorGAH
import Derived.Test.YtbidhpgjmcedaaaGreatDoorGAC
import Derived.StillTailTactics
import Derived.Deep.Cut
import Derived.Test.YtbidhpgjmcedaaaGreatDoorGBZ
import Derived.Test.YtbidhpgjmcedaaaGreatDoorGAW
import Derived.Test.YtbidhpgjmcedaaaGreatDoorGAZ
import Derived.Test.YtbidhpgjmcedaaaGreatDoorGBR
import Derived.Test.YtbidhpgjmcedaaaGreatDoorGBL
import Derived.Test.YtbidhpgjmcedaaaGreatDoorGBI
import Derived.Laws.Rows
namespace Go.Proofs.YtbidhpgjmcedaaaGreatDoor
set_option linter.unusedVariables false
open Go.RowKit
theorem infoSur : (Tryz.prog.info? 210).map (fun i => (i.zero, i.size, i.bytes)) = some (some (.agg #[.string ⟨#[]⟩, .int .i64 0, .slice none 0 0]), 3, 48) := by kernel_rfl
section
variable {D : Type}
set_option maxHeartbeats 1000000 in
set_option maxRecDepth 100000 in
theorem clone_Sur (H : Frz) (f : D → Nat → Value) (ds : List D) (hf : ∀ d ∈ ds, ∀ m, (f d m).oneCell' = true) (A : Option Addr) (cap : Nat) (w : World) (hH : H.In w) (hR : Rw H A 3 f ds) (hl : ds.length ≤ 1000000) :
  Calls Tryz.prog 192 #[.slice A ds.length cap] w fun e w' => (∃ v, e = .returned v ∧ Orow w' w.heap.size 210 3 f v ds) ∧ Below w.heap.size w w' := by
 obtain ⟨i0, hi0, hz0, hz1, hz2⟩ := info_parts infoSur
 cases A with
 | none =>
  have hd : ds = [] := by
   cases ds with
   | nil => rfl
   | cons d ds => obtain ⟨b, off, e, _⟩ := hR 0 (by simp); cases e
  subst hd
  have hn := fun wx => Lib.run_eql_slice_nil (P := Tryz.prog) wx 42 210 none 0 cap 0 0 Tryz.underlying42
  clear hR hH hf
  go_enter Tryz.func192, Tryz.ntmps192
  go_wp2_with fail
  go_ret
  exact ⟨⟨_, rfl, Orow.nil _ _ _ _ _⟩, Below.refl _ _⟩
 | some ad =>
  have hnews : Hid (∀ j u, (cellsOf 3 f ds)[j]? = some u → w.cell? (ad.add j) = some u) := by
   intro j u hu
   have hj : j < ds.length * 3 := by have := (List.getElem?_eq_some_iff.1 hu).1; rwa [cellsOf_len] at this
   obtain ⟨b, off, e, _, hc⟩ := hR.at_ hH (i := j / 3) (by omega) (by omega)
   injection e with e
   subst e
   have h2 := hc (j % 3) (Nat.mod_lt _ (by omega))
   have h3 := cellsOf_get 3 f ds (j / 3) (j % 3) (by omega) (Nat.mod_lt _ (by omega))
   have e1 : j / 3 * 3 + j % 3 = j := by omega
   rw [e1, hu] at h3
   rw [Addr.add_lit, show off + j = off + j / 3 * 3 + j % 3 from by omega, h2]
   exact h3.symm
  have hone : Hid (∀ u ∈ cellsOf 3 f ds, u.oneCell' = true) := by
   intro u hu
   simp only [cellsOf, List.mem_flatMap, List.mem_map] at hu
   obtain ⟨d, hd, m, _, rfl⟩ := hu
   exact hf d hd m
  have hlen := Lib.hid (cellsOf_len 3 f ds)
  have hn := fun wx => Lib.run_eql_slice_nil (P := Tryz.prog) wx 42 210 (some ad) ds.length cap 0 0 Tryz.underlying42
  have hown : Hid ((w.alloc (.cells #[] 210)).ownsRow w.heap.size 210 3 (.slice (some ⟨w.heap.size, 0, none⟩) 0 0) 0 []) := ⟨rfl, Or.inr ⟨w.heap.size, 0, #[], rfl, Nat.le_refl _, heap_at rfl, Nat.le_refl _, Nat.zero_le _, rfl, rfl⟩⟩
  have hnews2 : Hid (∀ j u, (cellsOf 3 f ds)[j]? = some u → (w.alloc (.cells #[] 210)).cell? (ad.add j) = some u) := fun j u hu => by
   have := hnews.out j u hu
   exact (World.cell?_alloc_lt w _ _ (World.block_lt_of_cell? w _ this)).trans this
  clear hR hH hf hnews
  go_enter Tryz.func192, Tryz.ntmps192
  go_wp2_with (at_builtin; refine wpList_append_own _ rfl _ _ 42 rfl w.heap.size 210 i0 (.agg #[.string ⟨#[]⟩, .int .i64 0, .slice none 0 0]) 3 48 Tryz.underlying42 hi0 hz0 hz1 hz2 rfl (by decide) (.slice (some ⟨w.heap.size, 0, none⟩) 0 0) 0 [] rfl hown.out ad ds.length cap (cellsOf 3 f ds) rfl hlen.out hnews2.out hone.out (by simp only [maxLen]; omega) (by omega) (by simp) ?_; intro v1 w2 o1 g1 b1)
  have O1 : Hid (Orow w2 w.heap.size 210 3 f v1 ds) := by
   show World.ownsRow _ _ _ _ _ _ _
   simpa using o1
  have B1 : Hid (Below w.heap.size w w2) := ((Below.refl _ w).alloc (Nat.le_refl _) _).grown g1 (by simp) (fun q hq => by simp [Value.ownBlock] at hq; omega)
  clear o1 g1 b1
  go_wp2_with fail
  go_ret
  exact ⟨⟨_, rfl, O1.out⟩, B1.out⟩
end
open Go.RowKit
theorem infoStr : (Tryz.prog.info? 9).map (fun i => (i.zero, i.size, i.bytes)) = some (some (.string ⟨#[]⟩), 1, 16) := by kernel_rfl
section
variable {D : Type}
set_option maxHeartbeats 1000000 in
set_option maxRecDepth 100000 in
theorem clone_Str (H : Frz) (f : D → Nat → Value) (ds : List D) (hf : ∀ d ∈ ds, ∀ m, (f d m).oneCell' = true) (A : Option Addr) (cap : Nat) (w : World) (hH : H.In w) (hR : Rw H A 1 f ds) (hl : ds.length ≤ 1000000) :
  Calls Tryz.prog 193 #[.slice A ds.length cap] w fun e w' => (∃ v, e = .returned v ∧ Orow w' w.heap.size 9 1 f v ds) ∧ Below w.heap.size w w' := by
 obtain ⟨i0, hi0, hz0, hz1, hz2⟩ := info_parts infoStr
 cases A with
 | none =>
  have hd : ds = [] := by
   cases ds with
   | nil => rfl
   | cons d ds => obtain ⟨b, off, e, _⟩ := hR 0 (by simp); cases e
  subst hd
  have hn := fun wx => Lib.run_eql_slice_nil (P := Tryz.prog) wx 186 9 none 0 cap 0 0 Tryz.underlying186
  clear hR hH hf
  go_enter Tryz.func193, Tryz.ntmps193
  go_wp2_with fail
  go_ret
  exact ⟨⟨_, rfl, Orow.nil _ _ _ _ _⟩, Below.refl _ _⟩
 | some ad =>
  have hnews : Hid (∀ j u, (cellsOf 1 f ds)[j]? = some u → w.cell? (ad.add j) = some u) := by
   intro j u hu
   have hj : j < ds.length * 1 := by have := (List.getElem?_eq_some_iff.1 hu).1; rwa [cellsOf_len] at this
   obtain ⟨b, off, e, _, hc⟩ := hR.at_ hH (i := j / 1) (by omega) (by omega)
   injection e with e
   subst e
   have h2 := hc (j % 1) (Nat.mod_lt _ (by omega))
   have h3 := cellsOf_get 1 f ds (j / 1) (j % 1) (by omega) (Nat.mod_lt _ (by omega))
   have e1 : j / 1 * 1 + j % 1 = j := by omega
   rw [e1, hu] at h3
   rw [Addr.add_lit, show off + j = off + j / 1 * 1 + j % 1 from by omega, h2]
   exact h3.symm
  have hone : Hid (∀ u ∈ cellsOf 1 f ds, u.oneCell' = true) := by
   intro u hu
   simp only [cellsOf, List.mem_flatMap, List.mem_map] at hu
   obtain ⟨d, hd, m, _, rfl⟩ := hu
   exact hf d hd m
  have hlen := Lib.hid (cellsOf_len 1 f ds)
  have hn := fun wx => Lib.run_eql_slice_nil (P := Tryz.prog) wx 186 9 (some ad) ds.length cap 0 0 Tryz.underlying186
  have hown : Hid ((w.alloc (.cells #[] 9)).ownsRow w.heap.size 9 1 (.slice (some ⟨w.heap.size, 0, none⟩) 0 0) 0 []) := ⟨rfl, Or.inr ⟨w.heap.size, 0, #[], rfl, Nat.le_refl _, heap_at rfl, Nat.le_refl _, Nat.zero_le _, rfl, rfl⟩⟩
  have hnews2 : Hid (∀ j u, (cellsOf 1 f ds)[j]? = some u → (w.alloc (.cells #[] 9)).cell? (ad.add j) = some u) := fun j u hu => by
   have := hnews.out j u hu
   exact (World.cell?_alloc_lt w _ _ (World.block_lt_of_cell? w _ this)).trans this
  clear hR hH hf hnews
  go_enter Tryz.func193, Tryz.ntmps193
  go_wp2_with (at_builtin; refine wpList_append_own _ rfl _ _ 186 rfl w.heap.size 9 i0 (.string ⟨#[]⟩) 1 16 Tryz.underlying186 hi0 hz0 hz1 hz2 rfl (by decide) (.slice (some ⟨w.heap.size, 0, none⟩) 0 0) 0 [] rfl hown.out ad ds.length cap (cellsOf 1 f ds) rfl hlen.out hnews2.out hone.out (by simp only [maxLen]; omega) (by omega) (by simp) ?_; intro v1 w2 o1 g1 b1)
  have O1 : Hid (Orow w2 w.heap.size 9 1 f v1 ds) := by
   show World.ownsRow _ _ _ _ _ _ _
   simpa using o1
  have B1 : Hid (Below w.heap.size w w2) := ((Below.refl _ w).alloc (Nat.le_refl _) _).grown g1 (by simp) (fun q hq => by simp [Value.ownBlock] at hq; omega)
  clear o1 g1 b1
  go_wp2_with fail
  go_ret
  exact ⟨⟨_, rfl, O1.out⟩, B1.out⟩
end
open Go.RowKit
structure Slot (L : Array Bool) (l c s : Nat) (X old : Value) (G : Prop) : Prop where
 off : L.getD s false = false → X = old
 on : L.getD s false = true → G
 a : L.getD c false = true → L.getD l false = true
 b : L.getD s false = true → L.getD c false = true
section
variable {L : Array Bool} {l c s : Nat} {X old v : Value} {G G' : Prop}
theorem Slot.start (m : Nat) : Slot (Array.replicate m false) l c s old old G :=
 ⟨fun _ => rfl, fun e => by rw [getD_rep] at e; (cases e), fun e => by rw [getD_rep] at e; (cases e), fun e => by rw [getD_rep] at e; (cases e)⟩
theorem Slot.step (h : Slot L l c s X old G) (hG : G → G') {i : Nat} (hs : i ≠ s) (hc : i = c → L.getD l false = true) : Slot (L.setIfInBounds i true) l c s X old G' := by
 refine ⟨fun e => h.off (by rwa [getD_set_ne false hs] at e), fun e => hG (h.on (by rwa [getD_set_ne false hs] at e)), fun e => ?_, fun e => getD_set_true (h.b (by rwa [getD_set_ne false hs] at e))⟩
 by_cases k : i = c
 ·exact getD_set_true (hc k)
 ·exact getD_set_true (h.a (by rwa [getD_set_ne false k] at e))
theorem Slot.old_ (h : Slot L l c s X old G) (h1 : L.getD l true = false) : X = old := by
 have h0 : L.getD l false = false := by
  rw [Array.getD_eq_getD_getElem?] at h1 ⊢
  cases e : L[l]? with
  | none => rfl
  | some x => rw [e] at h1; exact h1
 refine h.off ?_
 cases k : L.getD s false with
 | false => rfl
 | true => rw [h.a (h.b k)] at h0; cases h0
theorem Slot.store (h : Slot L l c s X old G) (hz : s < L.size) (hne : s ≠ c) (h2 : L.getD c false = true) (g : G') : Slot (L.setIfInBounds s true) l c s v old G' := by
 refine ⟨fun e => ?_, fun _ => g, fun e => getD_set_true (h.a (by rwa [getD_set_ne false hne] at e)), fun _ => getD_set_true h2⟩
 rw [Array.getD_eq_getD_getElem?, Array.getElem?_setIfInBounds] at e
 simp [hz] at e
end
theorem Orow.apartT {D E : Type} {w : World} {B B' T T' k k' : Nat} {f : D → Nat → Value} {f' : E → Nat → Value} {v v' : Value} {ds : List D} {es : List E} (hT : T ≠ T') (h1 : Orow w B T k f v ds) (h2 : Orow w B' T' k' f' v' es) {g : Nat} (e : v'.ownBlock = some g) : v.ownBlock ≠ some g := fun c => by
 obtain ⟨c1, e1⟩ := Orow.own_blkG h1 c
 obtain ⟨c2, e2⟩ := Orow.own_blkG h2 e
 rw [e1] at e2
 injection e2 with e2
 injection e2 with _ e3 _
 exact hT e3
structure RuJ (W0 : World) (rb : Nat) (r : RulD) (L : Array Bool) (w : World) : Prop where
 gr : W0.grownBy w (some rb)
 c : ∃ X0 X2, w.heap[rb]? = some (.cells #[X0, .int .i64 r.most, X2, .slice r.sa r.surs.length r.sc] 44 (0, 0)) ∧ Slot L 1 2 10 X0 (.slice r.ka r.kinds.length r.kc) (Orow w W0.heap.size 3 1 fI X0 r.kinds) ∧ Slot L 4 5 12 X2 (.slice r.wa r.weaks.length r.wc) (Orow w W0.heap.size 55 2 fId X2 r.weaks)
theorem RuJ.start {W0 : World} {rb : Nat} {r : RulD} (h : W0.heap[rb]? = some (.cells #[.slice r.ka r.kinds.length r.kc, .int .i64 r.most, .slice r.wa r.weaks.length r.wc, .slice r.sa r.surs.length r.sc] 44 (0, 0))) (m : Nat) : RuJ W0 rb r (Array.replicate m false) W0.drew :=
 ⟨⟨rfl, rfl, rfl, Nat.le_refl _, fun _ _ _ => rfl⟩, _, _, h, Slot.start m, Slot.start m⟩
theorem RuJ.step {W0 w w' : World} {rb : Nat} {r : RulD} {L : Array Bool} (h : RuJ W0 rb r L w) (hb : Below w.heap.size w w') {i : Nat} (h1 : i ≠ 10) (h2 : i ≠ 12) (h3 : i = 2 → L.getD 1 false = true) (h4 : i = 5 → L.getD 4 false = true) : RuJ W0 rb r (L.setIfInBounds i true) w' := by
 obtain ⟨X0, X2, e, s0, s2⟩ := h.c
 exact ⟨⟨hb.os.trans h.gr.os, hb.tape.trans h.gr.tape, hb.output.trans h.gr.output, Nat.le_trans h.gr.size hb.size, fun k hk hne => (hb.block k (Nat.lt_of_lt_of_le hk h.gr.size)).trans (h.gr.block k hk hne)⟩, X0, X2, (hb.block rb (lt_of_heap e)).trans e, s0.step (fun o => o.below hb) h1 h3, s2.step (fun o => o.below hb) h2 h4⟩
def φRu (rb B0 : Nat) (r : RulD) (i : Nat) (v : Value) (W : World) : Prop :=
 match i with
 | 0 => v = .pointer (some ⟨rb, 0, none⟩)
 | 1 => v = .slice r.ka r.kinds.length r.kc
 | 2 => Orow W B0 3 1 fI v r.kinds
 | 3 => v = .pointer (some ⟨rb, 2, none⟩)
 | 4 => v = .slice r.wa r.weaks.length r.wc
 | 5 => Orow W B0 55 2 fId v r.weaks
 | 6 => v = .pointer (some ⟨rb, 3, none⟩)
 | 7 => v = .slice r.sa r.surs.length r.sc
 | 8 => Orow W B0 210 3 fSur v r.surs
 | 9 => v = .pointer (some ⟨rb, 0, none⟩)
 | 10 => True
 | 11 => v = .pointer (some ⟨rb, 2, none⟩)
 | 12 => True
 | _ => v = .pointer (some ⟨rb, 3, none⟩)
theorem φRu_mono {rb B0 : Nat} (hb : rb < B0) {r : RulD} (i : Nat) (v : Value) (W W' : World) (_ : i < 14) (he : W.grownBy W' (some rb)) (h : φRu rb B0 r i v W) : φRu rb B0 r i v W' := by
 match i, h with
 | 0, h => exact h
 | 1, h => exact h
 | 2, h => exact Orow.far h he hb
 | 3, h => exact h
 | 4, h => exact h
 | 5, h => exact Orow.far h he hb
 | 6, h => exact h
 | 7, h => exact h
 | 8, h => exact Orow.far h he hb
 | 9, h => exact h
 | 10, h => trivial
 | 11, h => exact h
 | 12, h => trivial
 | _ + 13, h => exact h
structure RuL (w : World) (rb B B9 : Nat) (r : RulD) (X0 X2 : Value) (A8 : Option Addr) (c8 : Nat) (us : List SurD) (i : Nat) (wr : World) : Prop where
 obj : wr.heap[rb]? = some (.cells #[X0, .int .i64 r.most, X2, .slice A8 r.surs.length c8] 44 (0, 0))
 zob : wr.heap[rb + 1]? = some (.cells #[.slice none 0 0, .int .i64 0, .slice none 0 0, .slice none 0 0] 44 (0, 0))
 k : Orow wr B 3 1 fI X0 r.kinds
 ww : Orow wr B 55 2 fId X2 r.weaks
 u : Orow wr B 210 3 fSur (.slice A8 r.surs.length c8) (us ++ r.surs.drop i)
 s : ∀ x ∈ us, Orow wr B9 9 1 fS (.slice x.sa x.srcs.length x.sc) x.srcs
 bel : Below w.heap.size w wr
 sz : B9 ≤ wr.heap.size
def φRs (rb B0 g : Nat) (r : RulD) (c8 : Nat) (i : Nat) (d : SurD) (n : Nat) (v : Value) (W : World) : Prop :=
 match n with
 | 0 => v = .pointer (some ⟨rb, 3, none⟩)
 | 1 => v = .slice (some ⟨g, 0, none⟩) r.surs.length c8
 | 2 => v = .int .i64 i
 | 3 => v = .pointer (some ⟨rb, 3, none⟩)
 | 4 => v = .slice (some ⟨g, 0, none⟩) r.surs.length c8
 | 5 => v = .int .i64 i
 | 6 => v = .pointer (some ⟨g, i * 3, none⟩)
 | 7 => v = .pointer (some ⟨g, i * 3 + 2, none⟩)
 | 8 => v = .slice d.sa d.srcs.length d.sc
 | 9 => Orow W B0 9 1 fS v d.srcs
 | 10 => v = .pointer (some ⟨g, i * 3, none⟩)
 | _ => v = .pointer (some ⟨g, i * 3 + 2, none⟩)
theorem φRs_mono {rb B0 g : Nat} {r : RulD} {c8 i : Nat} {d : SurD} (n : Nat) (v : Value) (W W' : World) (_ : n < 12) (he : Below W.heap.size W W') (h : φRs rb B0 g r c8 i d n v W) : φRs rb B0 g r c8 i d n v W' := by
 match n, h with
 | 0, h => exact h
 | 1, h => exact h
 | 2, h => exact h
 | 3, h => exact h
 | 4, h => exact h
 | 5, h => exact h
 | 6, h => exact h
 | 7, h => exact h
 | 8, h => exact h
 | 9, h => exact Orow.below h he
 | 10, h => exact h
 | _ + 11, h => exact h
def CopyR (r : RulD) (w : World) (e : Ending) (w' : World) : Prop := ∃ r' : RulD, e = .returned (.agg #[.slice r'.ka r'.kinds.length r'.kc, .int .i64 r'.most, .slice r'.wa r'.weaks.length r'.wc, .slice r'.sa r'.surs.length r'.sc]) ∧ r'.kinds = r.kinds ∧ r'.most = r.most ∧ r'.weaks = r.weaks ∧ RulIn (newH w.heap.size w') r' ∧ Below w.heap.size w w'
set_option maxHeartbeats 8000000 in
set_option maxRecDepth 100000 in
theorem copyRules_any (H : Frz) (r : RulD) (w : World) (hH : H.In w) (hR : RulIn H r) (lk : r.kinds.length ≤ 1000000) (lw : r.weaks.length ≤ 1000000) (lu : r.surs.length ≤ 1000000) (ls : ∀ x ∈ r.surs, x.srcs.length ≤ 1000000) :
  Calls Tryz.prog 117 #[.agg #[.slice r.ka r.kinds.length r.kc, .int .i64 r.most, .slice r.wa r.weaks.length r.wc, .slice r.sa r.surs.length r.sc]] w (CopyR r w) := by
 have hb1 := new1 (w := w) (.cells #[.slice r.ka r.kinds.length r.kc, .int .i64 r.most, .slice r.wa r.weaks.length r.wc, .slice r.sa r.surs.length r.sc] 44)
 have hb2 := new1 (w := w.alloc (.cells #[.slice r.ka r.kinds.length r.kc, .int .i64 r.most, .slice r.wa r.weaks.length r.wc, .slice r.sa r.surs.length r.sc] 44)) (.cells #[.slice none 0 0, .int .i64 0, .slice none 0 0, .slice none 0 0] 44)
 have HZ : Hid (((w.alloc (.cells #[.slice r.ka r.kinds.length r.kc, .int .i64 r.most, .slice r.wa r.weaks.length r.wc, .slice r.sa r.surs.length r.sc] 44)).alloc (.cells #[.slice none 0 0, .int .i64 0, .slice none 0 0, .slice none 0 0] 44)).heap[w.heap.size + 1]? = some (.cells #[.slice none 0 0, .int .i64 0, .slice none 0 0, .slice none 0 0] 44 (0, 0))) := heap_at (by simp)
 have HT : Hid (((w.alloc (.cells #[.slice r.ka r.kinds.length r.kc, .int .i64 r.most, .slice r.wa r.weaks.length r.wc, .slice r.sa r.surs.length r.sc] 44)).alloc (.cells #[.slice none 0 0, .int .i64 0, .slice none 0 0, .slice none 0 0] 44)).heap[w.heap.size]? = some (.cells #[.slice r.ka r.kinds.length r.kc, .int .i64 r.most, .slice r.wa r.weaks.length r.wc, .slice r.sa r.surs.length r.sc] 44 (0, 0))) := (hb2.block _ (lt_of_heap (heap_alloc_new w (.cells #[.slice r.ka r.kinds.length r.kc, .int .i64 r.most, .slice r.wa r.weaks.length r.wc, .slice r.sa r.surs.length r.sc] 44)))).trans (heap_alloc_new w (.cells #[.slice r.ka r.kinds.length r.kc, .int .i64 r.most, .slice r.wa r.weaks.length r.wc, .slice r.sa r.surs.length r.sc] 44))
 have HBN := Lib.hid (hb1.trans (hb2.mono hb1.size))
 have HIN := Lib.hid (hH.below HBN.out)
 have HC0 := Lib.hid (fun W (hW : H.In W) => clone_Int H fI r.kinds (fun d _ m => rfl) r.ka r.kc W hW hR.k lk)
 have HC2 := Lib.hid (fun W (hW : H.In W) => clone_Id H fId r.weaks (fun d _ m => by match m with | 0 => rfl | _ + 1 => rfl) r.wa r.wc W hW hR.w lw)
 have HC3 := Lib.hid (fun W (hW : H.In W) => clone_Sur H fSur r.surs (fun d _ m => by match m with | 0 => rfl | 1 => rfl | _ + 2 => rfl) r.sa r.sc W hW hR.u lu)
 have HRS := Lib.hid hR.s
 have HLS := Lib.hid ls
 have HHW : Hid (∀ b o, H b = some o → b < w.heap.size) := fun b o e => hH.lt e
 clear hb1 hb2 hH hR ls
 go_enter Tryz.func117, Tryz.ntmps117
 go_upto_region 1 with (fail)
 generalize ((w.alloc (.cells #[.slice r.ka r.kinds.length r.kc, .int .i64 r.most, .slice r.wa r.weaks.length r.wc, .slice r.sa r.surs.length r.sc] 44)).alloc (.cells #[.slice none 0 0, .int .i64 0, .slice none 0 0, .slice none 0 0] 44)) = W1 at *
 obtain ⟨rb, hrb⟩ : ∃ rb, rb = w.heap.size := ⟨_, rfl⟩
 rw [← hrb] at HZ HT ⊢
 have HTB : Hid (rb < W1.heap.size ∧ rb + 1 < W1.heap.size ∧ w.heap.size ≤ rb ∧ rb = w.heap.size) := ⟨lt_of_heap HT.out, lt_of_heap HZ.out, by omega, hrb⟩
 have HNO : Hid (H rb = none) := by
  cases e : H rb with
  | none => rfl
  | some o => have := HHW.out rb o e; omega
 clear hrb
 refine wp_region_concV 14 36 (φRu rb W1.heap.size r) (fun L _ W => RuJ W1 rb r L W) (fun a b => a.grownBy b (some rb)) (by kernel_rfl) (by kernel_rfl) (by rfl) (RuJ.start HT.out _) (φRu_mono HTB.out.1) (fun i x w hi e h => ?_) ?_ ?_
 ·have : i = 0 ∨ i = 1 ∨ i = 2 ∨ i = 3 ∨ i = 4 ∨ i = 5 ∨ i = 6 ∨ i = 7 ∨ i = 8 ∨ i = 9 ∨ i = 10 ∨ i = 11 ∨ i = 12 ∨ i = 13 := by omega
  rcases this with rfl | rfl | rfl | rfl | rfl | rfl | rfl | rfl | rfl | rfl | rfl | rfl | rfl | rfl <;> first | trivial | exact absurd e (by decide)
 ·intro n o hn ho a W2 L hr hsN hLs hJ hkn
  replace hsN : a.tmps.size = 36 := hsN
  have hcs : n = 0 ∨ n = 1 ∨ n = 2 ∨ n = 3 ∨ n = 4 ∨ n = 5 ∨ n = 6 ∨ n = 7 ∨ n = 8 ∨ n = 9 ∨ n = 10 ∨ n = 11 ∨ n = 12 ∨ n = 13 := by omega
  have hin : H.In W2 := HIN.out.grown hJ.gr HNO.out
  have gB : ∀ W', Below W2.heap.size W2 W' → W2.grownBy W' (some rb) := fun W' hb => ⟨hb.os, hb.tape, hb.output, hb.size, fun k hk _ => hb.block k hk⟩
  have hsz := hJ.gr.size
  rcases hcs with rfl | rfl | rfl | rfl | rfl | rfl | rfl | rfl | rfl | rfl | rfl | rfl | rfl | rfl
  ·obtain rfl := Option.some.inj ho
   have h1 := slotA_of (hkn 1 (by decide) : a.tmps.getD 1 undef = .pointer (some ⟨rb, 0, none⟩))
   clear hkn ho
   simp only [OpV, execOp]
   simp [go_sem, h1]
   exact ⟨rfl, hJ.step (Below.refl _ _) (by decide) (by decide) (fun c => absurd c (by decide)) (fun c => absurd c (by decide)), gB _ (Below.refl _ _)⟩
  ·obtain rfl := Option.some.inj ho
   have h1 := slotA_of (hkn 4 (by decide) : a.tmps.getD 4 undef = .pointer (some ⟨rb, 0, none⟩))
   obtain ⟨X0, X2, hX, s0, s2⟩ := hJ.c
   rw [s0.old_ (mem_ready.1 hr).1] at hX
   have c3 := cell_h hX 0 (v := .slice r.ka r.kinds.length r.kc) rfl
   clear hkn ho hX s0 s2
   simp only [OpV, execOp]
   simp [go_sem, h1, c3]
   exact ⟨rfl, hJ.step (Below.refl _ _) (by decide) (by decide) (fun c => absurd c (by decide)) (fun c => absurd c (by decide)), gB _ (Below.refl _ _)⟩
  ·obtain rfl := Option.some.inj ho
   have hdep : L.getD 1 false = true := by
    obtain ⟨_, o', ho', hall⟩ := mem_ready.1 hr
    obtain rfl := Option.some.inj ho'
    exact hall { on := 1, ground := Ground.data } (by simp) rfl
   have h1 := slotA_of (hkn 5 (by decide) : a.tmps.getD 5 undef = .slice r.ka r.kinds.length r.kc)
   clear hkn ho
   simp only [OpV, execOp]
   simp [go_sem, h1]
   exact (HC0.out W2 hin).mono fun e w'' ⟨⟨v, he, ho⟩, hb⟩ => ⟨v, he, Orow.mono ho hsz, hJ.step hb (by decide) (by decide) (fun _ => hdep) (fun c => absurd c (by decide)), gB _ hb⟩
  ·obtain rfl := Option.some.inj ho
   have h1 := slotA_of (hkn 1 (by decide) : a.tmps.getD 1 undef = .pointer (some ⟨rb, 0, none⟩))
   clear hkn ho
   simp only [OpV, execOp]
   simp [go_sem, h1]
   exact ⟨rfl, hJ.step (Below.refl _ _) (by decide) (by decide) (fun c => absurd c (by decide)) (fun c => absurd c (by decide)), gB _ (Below.refl _ _)⟩
  ·obtain rfl := Option.some.inj ho
   have h1 := slotA_of (hkn 7 (by decide) : a.tmps.getD 7 undef = .pointer (some ⟨rb, 2, none⟩))
   obtain ⟨X0, X2, hX, s0, s2⟩ := hJ.c
   rw [s2.old_ (mem_ready.1 hr).1] at hX
   have c3 := cell_h hX 2 (v := .slice r.wa r.weaks.length r.wc) rfl
   clear hkn ho hX s0 s2
   simp only [OpV, execOp]
   simp [go_sem, h1, c3]
   exact ⟨rfl, hJ.step (Below.refl _ _) (by decide) (by decide) (fun c => absurd c (by decide)) (fun c => absurd c (by decide)), gB _ (Below.refl _ _)⟩
  ·obtain rfl := Option.some.inj ho
   have hdep : L.getD 4 false = true := by
    obtain ⟨_, o', ho', hall⟩ := mem_ready.1 hr
    obtain rfl := Option.some.inj ho'
    exact hall { on := 4, ground := Ground.data } (by simp) rfl
   have h1 := slotA_of (hkn 8 (by decide) : a.tmps.getD 8 undef = .slice r.wa r.weaks.length r.wc)
   clear hkn ho
   simp only [OpV, execOp]
   simp [go_sem, h1]
   exact (HC2.out W2 hin).mono fun e w'' ⟨⟨v, he, ho⟩, hb⟩ => ⟨v, he, Orow.mono ho hsz, hJ.step hb (by decide) (by decide) (fun c => absurd c (by decide)) (fun _ => hdep), gB _ hb⟩
  ·obtain rfl := Option.some.inj ho
   have h1 := slotA_of (hkn 1 (by decide) : a.tmps.getD 1 undef = .pointer (some ⟨rb, 0, none⟩))
   clear hkn ho
   simp only [OpV, execOp]
   simp [go_sem, h1]
   exact ⟨rfl, hJ.step (Below.refl _ _) (by decide) (by decide) (fun c => absurd c (by decide)) (fun c => absurd c (by decide)), gB _ (Below.refl _ _)⟩
  ·obtain rfl := Option.some.inj ho
   have h1 := slotA_of (hkn 10 (by decide) : a.tmps.getD 10 undef = .pointer (some ⟨rb, 3, none⟩))
   obtain ⟨X0, X2, hX, s0, s2⟩ := hJ.c
   have c3 := cell_h hX 3 (v := .slice r.sa r.surs.length r.sc) rfl
   clear hkn ho hX s0 s2
   simp only [OpV, execOp]
   simp [go_sem, h1, c3]
   exact ⟨rfl, hJ.step (Below.refl _ _) (by decide) (by decide) (fun c => absurd c (by decide)) (fun c => absurd c (by decide)), gB _ (Below.refl _ _)⟩
  ·obtain rfl := Option.some.inj ho
   have h1 := slotA_of (hkn 11 (by decide) : a.tmps.getD 11 undef = .slice r.sa r.surs.length r.sc)
   clear hkn ho
   simp only [OpV, execOp]
   simp [go_sem, h1]
   exact (HC3.out W2 hin).mono fun e w'' ⟨⟨v, he, ho⟩, hb⟩ => ⟨v, he, Orow.mono ho hsz, hJ.step hb (by decide) (by decide) (fun c => absurd c (by decide)) (fun c => absurd c (by decide)), gB _ hb⟩
  ·obtain rfl := Option.some.inj ho
   have h1 := slotA_of (hkn 1 (by decide) : a.tmps.getD 1 undef = .pointer (some ⟨rb, 0, none⟩))
   clear hkn ho
   simp only [OpV, execOp]
   simp [go_sem, h1]
   exact ⟨rfl, hJ.step (Below.refl _ _) (by decide) (by decide) (fun c => absurd c (by decide)) (fun c => absurd c (by decide)), gB _ (Below.refl _ _)⟩
  ·obtain rfl := Option.some.inj ho
   have hdep : L.getD 2 false = true := by
    obtain ⟨_, o', ho', hall⟩ := mem_ready.1 hr
    obtain rfl := Option.some.inj ho'
    exact hall { on := 2, ground := Ground.data } (by simp) rfl
   obtain ⟨X0, X2, hX, s0, s2⟩ := hJ.c
   have oV : Orow W2 W1.heap.size 3 1 fI (a.tmps.getD 6 undef) r.kinds := hkn 6 (by decide)
   obtain ⟨A9, c9, hv9, -⟩ := oV.slice
   rw [hv9] at oV
   have h1 := slotA_of (hkn 13 (by decide) : a.tmps.getD 13 undef = .pointer (some ⟨rb, 0, none⟩))
   have h2 := slotA_of hv9
   have c3 := cell_h hX 0 (v := X0) rfl
   have f3 := froz_h hX 0
   have hst : (W2.setCell ⟨rb, 0, none⟩ (.slice A9 r.kinds.length c9)).heap[rb]? = some (.cells #[(.slice A9 r.kinds.length c9), .int .i64 r.most, X2, .slice r.sa r.surs.length r.sc] 44 (0, 0)) := by
    simp [World.setCell, Array.getElem?_modify, hX]
   have hgr : W2.grownBy (W2.setCell ⟨rb, 0, none⟩ (.slice A9 r.kinds.length c9)) (some rb) := grown_setC (World.grownBy.refl _ _) _ _
   have oV2 := Orow.far oV hgr HTB.out.1
   have hJ2 : RuJ W1 rb r (L.setIfInBounds 10 true) (W2.setCell ⟨rb, 0, none⟩ (.slice A9 r.kinds.length c9)) := ⟨⟨hgr.os.trans hJ.gr.os, hgr.tape.trans hJ.gr.tape, hgr.output.trans hJ.gr.output, Nat.le_trans hJ.gr.size hgr.size, fun k hk hne => (hgr.block k (Nat.lt_of_lt_of_le hk hJ.gr.size) hne).trans (hJ.gr.block k hk hne)⟩, _, _, hst, s0.store (by rw [hLs]; decide) (by decide) hdep oV2, s2.step (fun o => o.far hgr HTB.out.1) (by decide) (fun c => absurd c (by decide))⟩
   clear hkn ho hX hv9 s0 s2
   simp only [OpV, execOp]
   simp [go_sem, h1, h2, c3, f3]
   exact ⟨trivial, hJ2, hgr⟩
  ·obtain rfl := Option.some.inj ho
   have h1 := slotA_of (hkn 1 (by decide) : a.tmps.getD 1 undef = .pointer (some ⟨rb, 0, none⟩))
   clear hkn ho
   simp only [OpV, execOp]
   simp [go_sem, h1]
   exact ⟨rfl, hJ.step (Below.refl _ _) (by decide) (by decide) (fun c => absurd c (by decide)) (fun c => absurd c (by decide)), gB _ (Below.refl _ _)⟩
  ·obtain rfl := Option.some.inj ho
   have hdep : L.getD 5 false = true := by
    obtain ⟨_, o', ho', hall⟩ := mem_ready.1 hr
    obtain rfl := Option.some.inj ho'
    exact hall { on := 5, ground := Ground.data } (by simp) rfl
   obtain ⟨X0, X2, hX, s0, s2⟩ := hJ.c
   have oV : Orow W2 W1.heap.size 55 2 fId (a.tmps.getD 9 undef) r.weaks := hkn 9 (by decide)
   obtain ⟨A9, c9, hv9, -⟩ := oV.slice
   rw [hv9] at oV
   have h1 := slotA_of (hkn 14 (by decide) : a.tmps.getD 14 undef = .pointer (some ⟨rb, 2, none⟩))
   have h2 := slotA_of hv9
   have c3 := cell_h hX 2 (v := X2) rfl
   have f3 := froz_h hX 2
   have hst : (W2.setCell ⟨rb, 2, none⟩ (.slice A9 r.weaks.length c9)).heap[rb]? = some (.cells #[X0, .int .i64 r.most, (.slice A9 r.weaks.length c9), .slice r.sa r.surs.length r.sc] 44 (0, 0)) := by
    simp [World.setCell, Array.getElem?_modify, hX]
   have hgr : W2.grownBy (W2.setCell ⟨rb, 2, none⟩ (.slice A9 r.weaks.length c9)) (some rb) := grown_setC (World.grownBy.refl _ _) _ _
   have oV2 := Orow.far oV hgr HTB.out.1
   have hJ2 : RuJ W1 rb r (L.setIfInBounds 12 true) (W2.setCell ⟨rb, 2, none⟩ (.slice A9 r.weaks.length c9)) := ⟨⟨hgr.os.trans hJ.gr.os, hgr.tape.trans hJ.gr.tape, hgr.output.trans hJ.gr.output, Nat.le_trans hJ.gr.size hgr.size, fun k hk hne => (hgr.block k (Nat.lt_of_lt_of_le hk hJ.gr.size) hne).trans (hJ.gr.block k hk hne)⟩, _, _, hst, s0.step (fun o => o.far hgr HTB.out.1) (by decide) (fun c => absurd c (by decide)), s2.store (by rw [hLs]; decide) (by decide) hdep oV2⟩
   clear hkn ho hX hv9 s0 s2
   simp only [OpV, execOp]
   simp [go_sem, h1, h2, c3, f3]
   exact ⟨trivial, hJ2, hgr⟩
  ·obtain rfl := Option.some.inj ho
   have h1 := slotA_of (hkn 1 (by decide) : a.tmps.getD 1 undef = .pointer (some ⟨rb, 0, none⟩))
   clear hkn ho
   simp only [OpV, execOp]
   simp [go_sem, h1]
   exact ⟨rfl, hJ.step (Below.refl _ _) (by decide) (by decide) (fun c => absurd c (by decide)) (fun c => absurd c (by decide)), gB _ (Below.refl _ _)⟩
 ·intro xv W9 L9 hL9 hJ hgt hφ
  have o8 : Orow W9 W1.heap.size 210 3 fSur (xv 8) r.surs := (hφ 8 (by omega)).resolve_right (fun c => (show ¬ ((some 12 : Option Nat) = none) from nofun) c.1)
  have e13 : xv 13 = .pointer (some ⟨rb, 3, none⟩) := (hφ 13 (by omega)).resolve_right (fun c => (show ¬ ((some 15 : Option Nat) = none) from nofun) c.1)
  obtain ⟨X0, X2, hX, s0, s2⟩ := hJ.c
  have oA := s0.on (hL9 10 (by omega))
  have oC := s2.on (hL9 12 (by omega))
  obtain ⟨A8, c8, e8, -⟩ := o8.slice
  rw [e8] at o8
  have hzz := (hJ.gr.block (rb + 1) HTB.out.2.1 (by intro c; injection c with c; omega)).trans HZ.out
  have HOA := Lib.hid oA
  have HOC := Lib.hid oC
  have HO8 := Lib.hid o8
  have HX := Lib.hid hX
  have HZZ := Lib.hid hzz
  have HGR := Lib.hid hJ.gr
  simp only [List.drop_succ_cons, List.drop_zero, List.take_succ_cons, List.take_zero, putAll, Nat.reduceAdd, e8, e13]
  clear e8 e13 o8 oA oC hX hzz hφ hJ hgt hL9 s0 s2
  generalize xv 0 = y0
  generalize xv 1 = y1
  generalize xv 2 = y2
  generalize xv 3 = y3
  generalize xv 4 = y4
  generalize xv 5 = y5
  generalize xv 6 = y6
  generalize xv 7 = y7
  generalize xv 9 = y9
  generalize xv 10 = y10
  generalize xv 11 = y11
  generalize xv 12 = y12
  have d3 := cell_h HX.out 3 (v := .slice r.sa r.surs.length r.sc) rfl
  have g3 := froz_h HX.out 3
  have HY : Hid ((W9.setCell ⟨rb, 3, none⟩ (.slice A8 r.surs.length c8)).heap[rb]? = some (.cells #[X0, .int .i64 r.most, X2, .slice A8 r.surs.length c8] 44 (0, 0))) := by
   show _ = _
   simp [World.setCell, Array.getElem?_modify, HX.out]
  have HG2 : Hid (W9.grownBy (W9.setCell ⟨rb, 3, none⟩ (.slice A8 r.surs.length c8)) (some rb)) := grown_setC (World.grownBy.refl _ _) _ _
  go_upto_region 2 with (fail)
  clear d3 g3
  generalize W9.setCell ⟨rb, 3, none⟩ (.slice A8 r.surs.length c8) = W10 at *
  have HS0 : Hid (RuL w rb W1.heap.size W10.heap.size r X0 X2 A8 c8 [] 0 W10) := by
   refine ⟨HY.out, (HG2.out.block (rb + 1) (lt_of_heap HZZ.out) (by intro c; injection c with c; omega)).trans HZZ.out, HOA.out.far HG2.out HTB.out.1, HOC.out.far HG2.out HTB.out.1, HO8.out.far HG2.out HTB.out.1, fun x hx => absurd hx (by simp), Below.mk9 (Below.mk9 HBN.out HGR.out (fun g e => by injection e with e; have := HTB.out.2.2.1; omega)) HG2.out (fun g e => by injection e with e; have := HTB.out.2.2.1; omega), Nat.le_refl _⟩
  have HOB : Hid (∀ q, (Value.slice A8 r.surs.length c8).ownBlock = some q → W1.heap.size ≤ q ∧ q < W10.heap.size) := fun q hq => HS0.out.u.lt hq
  have HW10 : Hid (W1.heap.size ≤ W10.heap.size) := Nat.le_trans HGR.out.size HG2.out.size
  have HX0 : Hid (∃ a c, X0 = .slice a r.kinds.length c) := by obtain ⟨a, c, e, -⟩ := HS0.out.k.slice; exact ⟨a, c, e⟩
  have HX2 : Hid (∃ a c, X2 = .slice a r.weaks.length c) := by obtain ⟨a, c, e, -⟩ := HS0.out.ww.slice; exact ⟨a, c, e⟩
  clear HOA HOC HO8 HX HZZ HGR HY HG2
  have x3 := cell_h HS0.out.obj 3 (v := .slice A8 r.surs.length c8) rfl
  go_wp2_with fail
  clear x3
  go_loopw [19] (fun t wr => ∃ (i : Nat) (us : List SurD), us.length = i ∧ i ≤ r.surs.length ∧ t = .int .i64 i ∧ Hid (RuL w rb W1.heap.size W10.heap.size r X0 X2 A8 c8 us i wr)) (fun t _ => r.surs.length - (intOf t).toNat)
  case atStart => exact ⟨0, [], rfl, by omega, rfl, HS0⟩
  case round =>
   obtain ⟨i, us, hui, hi, rfl, J⟩ := hrel
   clear HS0
   by_cases hlt : i < r.surs.length
   ·have hdr : r.surs.drop i = r.surs[i] :: r.surs.drop (i + 1) := List.drop_eq_getElem_cons hlt
    have hlen : (us ++ r.surs.drop i).length = r.surs.length := by rw [List.length_append, List.length_drop, hui]; omega
    obtain ⟨g, c9, rest, hv, hle, hBg, hgq, hm, hk, hr⟩ := J.out.u.form (by intro e; rw [e] at hlen; simp at hlen; omega)
    rw [hlen] at hv hle hr
    cases hv
    have hix : i < (us ++ r.surs.drop i).length := by rw [hlen]; exact hlt
    have hge : (us ++ r.surs.drop i)[i] = r.surs[i] := by
     simp only [hdr]
     rw [List.getElem_append_right (by omega)]
     simp [hui]
    have hc2 : wr.cell? ⟨g, i * 3 + 2, none⟩ = some (.slice r.surs[i].sa r.surs[i].srcs.length r.surs[i].sc) := by
     have h := hk.cell i 2 hix (by omega)
     rw [hge] at h
     exact h
    have HCS := Lib.hid (fun W (hW : H.In W) => clone_Str H fS r.surs[i].srcs (fun d _ m => rfl) r.surs[i].sa r.surs[i].sc W hW (HRS.out _ (List.getElem_mem hlt)) (HLS.out _ (List.getElem_mem hlt)))
    have HSET : Hid (∀ x, (us ++ r.surs.drop i).set i x = us ++ [x] ++ r.surs.drop (i + 1)) := fun x => by
     rw [hdr, List.set_append_right _ _ (by omega), hui, Nat.sub_self, List.set_cons_zero, List.append_assoc]
     rfl
    have HIW : Hid (H.In wr) := by
     intro b o e
     have h1 := HHW.out b o e
     have h2 := HIN.out b o e
     exact (J.out.bel.block b h1).trans ((HBN.out.block b h1).symm.trans h2)
    have HUP : Hid (∀ (W : World) (d' : SurD) (x : Value), KBlk W g 210 3 fSur (us ++ r.surs.drop i) rest → fSur d' 2 = x → d'.name = r.surs[i].name → d'.how = r.surs[i].how → KBlk (W.setCell ⟨g, i * 3 + 2, none⟩ x) g 210 3 fSur (us ++ [d'] ++ r.surs.drop (i + 1)) rest) := fun W d' x hK hx h1 h2 => by
     rw [← HSET.out d']
     refine hK.upd i 2 hix (by omega) hx fun m hm hne => ?_
     rw [hge]
     match m, hm with
     | 0, _ => show Value.string d'.name = .string r.surs[i].name; rw [h1]
     | 1, _ => show Value.int .i64 d'.how = .int .i64 r.surs[i].how; rw [h2]
     | 2, _ => exact absurd rfl hne
    have HKB := Lib.hid hk
    have HRL : Hid (c8 ≤ maxLen ∧ r.surs.length ≤ c8 ∧ rest.length = c8 * 3 - r.surs.length * 3 ∧ W1.heap.size ≤ g ∧ (us ++ r.surs.drop i).length = r.surs.length) := ⟨hm, hle, hr, hBg, hlen⟩
    have hg1 : g < W10.heap.size := (HOB.out g rfl).2
    have HG1 := Lib.hid hg1
    have HCC := Lib.hid hc2
    have hx3 := cell_h J.out.obj 3 (v := .slice (some ⟨g, 0, none⟩) r.surs.length c8) rfl
    have HX3 := Lib.hid (J.out.obj)
    have hii : (i : Int) < r.surs.length := by omega
    generalize hsi : r.surs[i] = d at *
    clear hdr hlen hix hge hk hm hle hr hBg hgq hg1 hc2 hx3 hsi
    go_upto_region 5 with (fail)
    refine wp_region_conc 12 36 (φRs rb wr.heap.size g r c8 i d) (fun n W' => Below wr.heap.size wr W') (fun a b => Below a.heap.size a b) (by kernel_rfl) (by kernel_rfl) (by rfl) ((Below.refl _ _).drew) φRs_mono ?_ ?_
    ·intro n o hn ho a W2 kk hkk hJ hkn
     have hcs : n = 0 ∨ n = 1 ∨ n = 2 ∨ n = 3 ∨ n = 4 ∨ n = 5 ∨ n = 6 ∨ n = 7 ∨ n = 8 ∨ n = 9 ∨ n = 10 ∨ n = 11 := by omega
     rcases hcs with rfl | rfl | rfl | rfl | rfl | rfl | rfl | rfl | rfl | rfl | rfl | rfl
     ·obtain rfl := Option.some.inj ho
      have h1 := slotA_of (hkn 1 (by decide) : a.tmps.getD 1 undef = .pointer (some ⟨rb, 0, none⟩))
      clear hkn ho
      simp only [OpV, execOp]
      simp [go_sem, h1]
      exact ⟨rfl, hJ, Below.refl _ _⟩
     ·obtain rfl := Option.some.inj ho
      have h1 := slotA_of (hkn 22 (by decide) : a.tmps.getD 22 undef = .pointer (some ⟨rb, 3, none⟩))
      have hx := (hJ.block rb (lt_of_heap HX3.out)).trans HX3.out
      have c3 := cell_h hx 3 (v := .slice (some ⟨g, 0, none⟩) r.surs.length c8) rfl
      clear hkn ho hx
      simp only [OpV, execOp]
      simp [go_sem, h1, c3]
      exact ⟨rfl, hJ, Below.refl _ _⟩
     ·obtain rfl := Option.some.inj ho
      have h1 := slotA_of (hkn 3 (by decide) : a.tmps.getD 3 undef = .int .i64 i)
      clear hkn ho
      simp only [OpV, execOp]
      simp [go_sem, h1]
      exact ⟨rfl, hJ, Below.refl _ _⟩
     ·obtain rfl := Option.some.inj ho
      have h1 := slotA_of (hkn 1 (by decide) : a.tmps.getD 1 undef = .pointer (some ⟨rb, 0, none⟩))
      clear hkn ho
      simp only [OpV, execOp]
      simp [go_sem, h1]
      exact ⟨rfl, hJ, Below.refl _ _⟩
     ·obtain rfl := Option.some.inj ho
      have h1 := slotA_of (hkn 25 (by decide) : a.tmps.getD 25 undef = .pointer (some ⟨rb, 3, none⟩))
      have hx := (hJ.block rb (lt_of_heap HX3.out)).trans HX3.out
      have c3 := cell_h hx 3 (v := .slice (some ⟨g, 0, none⟩) r.surs.length c8) rfl
      clear hkn ho hx
      simp only [OpV, execOp]
      simp [go_sem, h1, c3]
      exact ⟨rfl, hJ, Below.refl _ _⟩
     ·obtain rfl := Option.some.inj ho
      have h1 := slotA_of (hkn 3 (by decide) : a.tmps.getD 3 undef = .int .i64 i)
      clear hkn ho
      simp only [OpV, execOp]
      simp [go_sem, h1]
      exact ⟨rfl, hJ, Below.refl _ _⟩
     ·obtain rfl := Option.some.inj ho
      have h1 := slotA_of (hkn 26 (by decide) : a.tmps.getD 26 undef = .slice (some ⟨g, 0, none⟩) r.surs.length c8)
      have h2 := slotA_of (hkn 27 (by decide) : a.tmps.getD 27 undef = .int .i64 i)
      clear hkn ho
      simp only [OpV, execOp]
      simp [go_sem, h1, h2, hlt]
      exact ⟨rfl, hJ, Below.refl _ _⟩
     ·obtain rfl := Option.some.inj ho
      have h1 := slotA_of (hkn 28 (by decide) : a.tmps.getD 28 undef = .pointer (some ⟨g, i * 3, none⟩))
      clear hkn ho
      simp only [OpV, execOp]
      simp [go_sem, h1]
      exact ⟨rfl, hJ, Below.refl _ _⟩
     ·obtain rfl := Option.some.inj ho
      have h1 := slotA_of (hkn 29 (by decide) : a.tmps.getD 29 undef = .pointer (some ⟨g, i * 3 + 2, none⟩))
      have c3 := lift_cell HCC.out _ hJ
      clear hkn ho
      simp only [OpV, execOp]
      simp [go_sem, h1, c3]
      exact ⟨rfl, hJ, Below.refl _ _⟩
     ·obtain rfl := Option.some.inj ho
      have h1 := slotA_of (hkn 30 (by decide) : a.tmps.getD 30 undef = .slice d.sa d.srcs.length d.sc)
      clear hkn ho
      simp only [OpV, execOp]
      simp [go_sem, h1]
      exact (HCS.out W2 (HIW.out.below hJ)).mono fun e w'' ⟨⟨v, he, ho⟩, hb⟩ => ⟨v, he, Orow.mono ho hJ.size, hJ.trans (hb.mono hJ.size), hb⟩
     ·obtain rfl := Option.some.inj ho
      have h1 := slotA_of (hkn 23 (by decide) : a.tmps.getD 23 undef = .slice (some ⟨g, 0, none⟩) r.surs.length c8)
      have h2 := slotA_of (hkn 24 (by decide) : a.tmps.getD 24 undef = .int .i64 i)
      clear hkn ho
      simp only [OpV, execOp]
      simp [go_sem, h1, h2, hlt]
      exact ⟨rfl, hJ, Below.refl _ _⟩
     ·obtain rfl := Option.some.inj ho
      have h1 := slotA_of (hkn 32 (by decide) : a.tmps.getD 32 undef = .pointer (some ⟨g, i * 3, none⟩))
      clear hkn ho
      simp only [OpV, execOp]
      simp [go_sem, h1]
      exact ⟨rfl, hJ, Below.refl _ _⟩
    ·intro yv Wv hJv hφ
     have oV : Orow Wv wr.heap.size 9 1 fS (yv 9) d.srcs := hφ 9 (by omega)
     have e11 : yv 11 = .pointer (some ⟨g, i * 3 + 2, none⟩) := hφ 11 (by omega)
     obtain ⟨A9, c9, e9, -⟩ := oV.slice
     rw [e9] at oV
     obtain ⟨d', hd'⟩ : ∃ d' : SurD, d' = { d with sa := A9, sc := c9 } := ⟨_, rfl⟩
     have hKv := HKB.out.keep hJv
     have hKW := HUP.out Wv d' (.slice A9 d.srcs.length c9) hKv (by rw [hd']; rfl) (by rw [hd']) (by rw [hd'])
     have hgr : Wv.grownBy (Wv.setCell ⟨g, i * 3 + 2, none⟩ (.slice A9 d.srcs.length c9)) (some g) := grown_setC (World.grownBy.refl _ _) _ _
     have hcc := lift_cell HCC.out _ hJv
     have hff := hKv.frozen (i * 3 + 2)
     have hob := (hJv.block rb (lt_of_heap J.out.obj)).trans J.out.obj
     have hzo := (hJv.block (rb + 1) (lt_of_heap J.out.zob)).trans J.out.zob
     have HJ2 : Hid (RuL w rb W1.heap.size W10.heap.size r X0 X2 (some ⟨g, 0, none⟩) c8 (us ++ [d']) (i + 1) (Wv.setCell ⟨g, i * 3 + 2, none⟩ (.slice A9 d.srcs.length c9))) := by
      have hl9 : (us ++ [d'] ++ r.surs.drop (i + 1)).length = r.surs.length := by
       rw [← HSET.out d', List.length_set]
       exact HRL.out.2.2.2.2
      have hrg : rb ≠ g := by have h1 := HTB.out.1; have h2 := HRL.out.2.2.2.1; omega
      have hrg1 : rb + 1 ≠ g := by have h1 := HTB.out.2.1; have h2 := HRL.out.2.2.2.1; omega
      have hku := J.out.u
      refine ⟨(hgr.block rb (lt_of_heap hob) (by intro c; injection c with c; exact hrg c)).trans hob, (hgr.block (rb + 1) (lt_of_heap hzo) (by intro c; injection c with c; exact hrg1 c)).trans hzo, (J.out.k.below hJv).kept hgr (Or.inr (Orow.apartT (by decide) J.out.k J.out.u rfl)), (J.out.ww.below hJv).kept hgr (Or.inr (Orow.apartT (by decide) J.out.ww J.out.u rfl)), ?_, fun x hx => ?_, Below.mk9 (J.out.bel.trans (hJv.mono J.out.bel.size)) hgr (fun q e => by injection e with e; have h1 := HRL.out.2.2.2.1; have h2 := HBN.out.size; omega), Nat.le_trans J.out.sz (Nat.le_trans hJv.size hgr.size)⟩
      ·have h := Orow.of_blk hKW HRL.out.2.2.2.1 HRL.out.1 (by rw [hl9]; exact HRL.out.2.1) (by rw [hl9]; exact HRL.out.2.2.1)
       rw [hl9] at h
       exact h
      ·rcases List.mem_append.1 hx with hx | hx
       ·exact ((J.out.s x hx).below hJv).far hgr HG1.out
       ·have e : x = d' := by simpa using hx
        subst e
        rw [hd']
        exact (oV.mono J.out.sz).far hgr HG1.out
     simp only [List.drop_succ_cons, List.drop_zero, List.take_succ_cons, List.take_zero, putAll, Nat.reduceAdd, e9, e11]
     clear e9 e11 hφ oV hKv hKW hgr hob hzo hJv HUP HSET HKB HRL HCC J HX3 HCS HIW
     generalize yv 0 = z0
     generalize yv 1 = z1
     generalize yv 2 = z2
     generalize yv 3 = z3
     generalize yv 4 = z4
     generalize yv 5 = z5
     generalize yv 6 = z6
     generalize yv 7 = z7
     generalize yv 8 = z8
     generalize yv 10 = z10
     go_wp2_with fail
     clear hcc hff
     go_roundw
     case rel => exact ⟨i + 1, us ++ [d'], by simp [hui], by omega, by go_num, HJ2⟩
     case measure => simp [intOf]; omega
   ·have hie : i = r.surs.length := by omega
    subst hie
    obtain ⟨a0, c0, rfl⟩ := HX0.out
    obtain ⟨a2, c2, rfl⟩ := HX2.out
    have hu := J.out.u
    rw [List.drop_length, List.append_nil] at hu
    have hul : us.length = r.surs.length := hui
    obtain ⟨r', hr'⟩ : ∃ r' : RulD, r' = ⟨a0, c0, r.kinds, r.most, a2, c2, r.weaks, A8, c8, us⟩ := ⟨_, rfl⟩
    have HS1 : Hid (wr.grownBy (((((wr.setCell ⟨rb + 1, 0, none⟩ (.slice a0 r.kinds.length c0)).setCell ⟨rb + 1, 1, none⟩ (.int .i64 r.most)).setCell ⟨rb + 1, 2, none⟩ (.slice a2 r.weaks.length c2)).setCell ⟨rb + 1, 3, none⟩ (.slice A8 r.surs.length c8))) (some (rb + 1))) := (grown_setC (grown_setC (grown_setC (grown_setC (World.grownBy.refl _ _) _ _) _ _) _ _) _ _)
    have HS2 : Hid ((((((wr.setCell ⟨rb + 1, 0, none⟩ (.slice a0 r.kinds.length c0)).setCell ⟨rb + 1, 1, none⟩ (.int .i64 r.most)).setCell ⟨rb + 1, 2, none⟩ (.slice a2 r.weaks.length c2)).setCell ⟨rb + 1, 3, none⟩ (.slice A8 r.surs.length c8))).heap[rb + 1]? = some (.cells #[.slice a0 r.kinds.length c0, .int .i64 r.most, .slice a2 r.weaks.length c2, .slice A8 r.surs.length c8] 44 (0, 0))) := by
     show _ = _
     simp [World.setCell, Array.getElem?_modify, J.out.zob]
    have HF : Hid (CopyR r w (.returned (.agg #[.slice a0 r.kinds.length c0, .int .i64 r.most, .slice a2 r.weaks.length c2, .slice A8 r.surs.length c8])) (((((wr.setCell ⟨rb + 1, 0, none⟩ (.slice a0 r.kinds.length c0)).setCell ⟨rb + 1, 1, none⟩ (.int .i64 r.most)).setCell ⟨rb + 1, 2, none⟩ (.slice a2 r.weaks.length c2)).setCell ⟨rb + 1, 3, none⟩ (.slice A8 r.surs.length c8)))) := by
     have hw1 : w.heap.size ≤ W1.heap.size := HBN.out.size
     have k1 := J.out.k.far HS1.out HTB.out.2.1
     have k2 := J.out.ww.far HS1.out HTB.out.2.1
     have k3 := hu.far HS1.out HTB.out.2.1
     obtain ⟨p1, q1, e1, -, r1⟩ := k1.memN (n := w.heap.size) hw1
     obtain ⟨p2, q2, e2, -, r2⟩ := k2.memN (n := w.heap.size) hw1
     obtain ⟨p3, q3, e3, -, r3⟩ := k3.memN (n := w.heap.size) hw1
     cases e1
     cases e2
     rw [hul] at e3
     cases e3
     have hw10 : W1.heap.size ≤ W10.heap.size := HW10.out
     have hs4 : ∀ x ∈ us, Rw (newH w.heap.size (((((wr.setCell ⟨rb + 1, 0, none⟩ (.slice a0 r.kinds.length c0)).setCell ⟨rb + 1, 1, none⟩ (.int .i64 r.most)).setCell ⟨rb + 1, 2, none⟩ (.slice a2 r.weaks.length c2)).setCell ⟨rb + 1, 3, none⟩ (.slice A8 r.surs.length c8)))) x.sa 1 fS x.srcs := fun x hx => by
      have k4 := (J.out.s x hx).far HS1.out (Nat.lt_of_lt_of_le HTB.out.2.1 hw10)
      obtain ⟨p4, q4, e4, -, r4⟩ := k4.memN (n := w.heap.size) (Nat.le_trans hw1 hw10)
      cases e4
      exact r4
     refine ⟨r', by rw [hr']; simp only [hul], by rw [hr'], by rw [hr'], by rw [hr'], by rw [hr']; exact ⟨r1, r2, r3, hs4⟩, Below.mk9 J.out.bel HS1.out (fun g e => by injection e with e; have := HTB.out.2.2.1; omega)⟩
    have m0 := cell_h J.out.obj 0 (v := (.slice a0 r.kinds.length c0)) rfl
    have m1 := cell_h J.out.obj 1 (v := (.int .i64 r.most)) rfl
    have m2 := cell_h J.out.obj 2 (v := (.slice a2 r.weaks.length c2)) rfl
    have m3 := cell_h J.out.obj 3 (v := (.slice A8 r.surs.length c8)) rfl
    have q0 := cell_h J.out.zob 0 (v := (.slice none 0 0)) rfl
    have f0 := froz_h J.out.zob 0
    have q1 := cell_h J.out.zob 1 (v := (.int .i64 0)) rfl
    have f1 := froz_h J.out.zob 1
    have q2 := cell_h J.out.zob 2 (v := (.slice none 0 0)) rfl
    have f2 := froz_h J.out.zob 2
    have q3 := cell_h J.out.zob 3 (v := (.slice none 0 0)) rfl
    have f3 := froz_h J.out.zob 3
    clear hu J HS1 HX0 HX2
    go_wp2_with fail
    exact bodyPost_ret (results_cell_row rfl _ _ (rb + 1) 44 _ (0, 0) _ rfl HS2.out Tryz.underlying44 rfl (by kernel_rfl)) rfl HF.out
end Go.Proofs.YtbidhpgjmcedaaaGreatDoor
