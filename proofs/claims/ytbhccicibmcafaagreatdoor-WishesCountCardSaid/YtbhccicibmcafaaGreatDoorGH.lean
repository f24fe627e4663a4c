/- Texts of this claim, put together: CloneSt, IdxSt, DelP, Del, Later, Glob, ConsN. -/
import Derived.Test.YtbhccicibmcafaaGreatDoorGA
import Derived.StillTailTactics
import Derived.Deep.Cut
import Derived.Test.YtbhccicibmcafaaGreatDoorGB
import Derived.Laws.IdiomCopy
import Derived.Laws.AppendOwn
import Derived.Test.YtbhccicibmcafaaGreatDoorGG
import Derived.Test.YtbhccicibmcafaaGreatDoorGF
import Derived.OpenShut
import Derived.FnData
import Derived.Shelf.Vars
import Derived.MakeChecks
import Derived.Handed
import Derived.Test.YtbhccicibmcafaaGreatDoorGE
/- Clone at elements of 8 cells. -/
namespace Go.Proofs.YtbhccicibmcafaaGreatDoor
set_option linter.unusedVariables false
open Go.RowKit

theorem infoSt : (Tryz.prog.info? 43).map (fun i => (i.zero, i.size, i.bytes)) = some (some (.agg #[.int .i64 0, .int .i64 0, .int .i64 0, .string ⟨#[]⟩, .string ⟨#[]⟩, .string ⟨#[]⟩, .int .i64 0, .int .i64 0]), 8, 88) := by kernel_rfl
section
variable {D : Type}
set_option maxHeartbeats 1000000 in
set_option maxRecDepth 100000 in
theorem clone_St (H : Frz) (f : D → Nat → Value) (ds : List D) (hf : ∀ d ∈ ds, ∀ m, (f d m).oneCell' = true) (A : Option Addr) (cap : Nat) (w : World) (hH : H.In w) (hR : Rw H A 8 f ds) (hl : ds.length ≤ 1000000) :
    Calls Tryz.prog 14 #[.slice A ds.length cap] w fun e w' => (∃ v, e = .returned v ∧ Orow w' w.heap.size 43 8 f v ds) ∧ Below w.heap.size w w' := by
  obtain ⟨i0, hi0, hz0, hz1, hz2⟩ := info_parts infoSt
  cases A with
  | none =>
    have hd : ds = [] := by
      cases ds with
      | nil => rfl
      | cons d ds => obtain ⟨b, off, e, _⟩ := hR 0 (by simp); cases e
    subst hd
    have hn := fun wx => Lib.run_eql_slice_nil (P := Tryz.prog) wx 28 43 none 0 cap 0 0 Tryz.underlying28
    clear hR hH hf
    go_enter Tryz.func14, Tryz.ntmps14
    go_wp2_with fail
    go_ret
    exact ⟨⟨_, rfl, Orow.nil _ _ _ _ _⟩, Below.refl _ _⟩
  | some ad =>
    have hnews : Hid (∀ j u, (cellsOf 8 f ds)[j]? = some u → w.cell? (ad.add j) = some u) := by
      intro j u hu
      have hj : j < ds.length * 8 := by have := (List.getElem?_eq_some_iff.1 hu).1; rwa [cellsOf_len] at this
      obtain ⟨b, off, e, _, hc⟩ := hR.at_ hH (i := j / 8) (by omega) (by omega)
      injection e with e
      subst e
      have h2 := hc (j % 8) (Nat.mod_lt _ (by omega))
      have h3 := cellsOf_get 8 f ds (j / 8) (j % 8) (by omega) (Nat.mod_lt _ (by omega))
      have e1 : j / 8 * 8 + j % 8 = j := by omega
      rw [e1, hu] at h3
      rw [Addr.add_lit, show off + j = off + j / 8 * 8 + j % 8 from by omega, h2]
      exact h3.symm
    have hone : Hid (∀ u ∈ cellsOf 8 f ds, u.oneCell' = true) := by
      intro u hu
      simp only [cellsOf, List.mem_flatMap, List.mem_map] at hu
      obtain ⟨d, hd, m, _, rfl⟩ := hu
      exact hf d hd m
    have hlen := Lib.hid (cellsOf_len 8 f ds)
    have hn := fun wx => Lib.run_eql_slice_nil (P := Tryz.prog) wx 28 43 (some ad) ds.length cap 0 0 Tryz.underlying28
    have hown : Hid ((w.alloc (.cells #[] 43)).ownsRow w.heap.size 43 8 (.slice (some ⟨w.heap.size, 0, none⟩) 0 0) 0 []) := ⟨rfl, Or.inr ⟨w.heap.size, 0, #[], rfl, Nat.le_refl _, heap_at rfl, Nat.le_refl _, Nat.zero_le _, rfl, rfl⟩⟩
    have hnews2 : Hid (∀ j u, (cellsOf 8 f ds)[j]? = some u → (w.alloc (.cells #[] 43)).cell? (ad.add j) = some u) := fun j u hu => by
      have := hnews.out j u hu
      exact (World.cell?_alloc_lt w _ _ (World.block_lt_of_cell? w _ this)).trans this
    clear hR hH hf hnews
    go_enter Tryz.func14, Tryz.ntmps14
    go_wp2_with (at_builtin; refine wpList_append_own _ rfl _ _ 28 rfl w.heap.size 43 i0 (.agg #[.int .i64 0, .int .i64 0, .int .i64 0, .string ⟨#[]⟩, .string ⟨#[]⟩, .string ⟨#[]⟩, .int .i64 0, .int .i64 0]) 8 88 Tryz.underlying28 hi0 hz0 hz1 hz2 rfl (by decide) (.slice (some ⟨w.heap.size, 0, none⟩) 0 0) 0 [] rfl hown.out ad ds.length cap (cellsOf 8 f ds) rfl hlen.out hnews2.out hone.out (by simp only [maxLen]; omega) (by omega) (by simp) ?_; intro v1 w2 o1 g1 b1)
    have O1 : Hid (Orow w2 w.heap.size 43 8 f v1 ds) := by
      show World.ownsRow _ _ _ _ _ _ _
      simpa using o1
    have B1 : Hid (Below w.heap.size w w2) := ((Below.refl _ w).alloc (Nat.le_refl _) _).grown g1 (by simp) (fun q hq => by simp [Value.ownBlock] at hq; omega)
    clear o1 g1 b1
    go_wp2_with fail
    go_ret
    exact ⟨⟨_, rfl, O1.out⟩, B1.out⟩
end
end Go.Proofs.YtbhccicibmcafaaGreatDoor

/- IndexFunc and ContainsFunc at elements of 8 cells. -/
namespace Go.Proofs.YtbhccicibmcafaaGreatDoor
set_option linter.unusedVariables false
open Go.RowKit

section
variable {D : Type}
set_option maxHeartbeats 1000000 in
theorem indexFunc_St (H : Frz) (f : D → Nat → Value) (kf : Nat) (caps : List Value) (p : D → Bool) (ds : List D) (hp : ∀ (W : World) (d : D), d ∈ ds → H.In W → Calls Tryz.prog kf ((.agg #[f d 0, f d 1, f d 2, f d 3, f d 4, f d 5, f d 6, f d 7] : Value) :: caps).toArray W fun e W' => e = .returned (.bool (p d)) ∧ Below W.heap.size W W')
    (hcall : ∀ (a : Value) (W : World), (callFunc kf (a :: caps).toArray).run Tryz.prog W = .ok (.enter kf (a :: caps).toArray) W)
    (A : Option Addr) (cap : Nat) (w : World) (hH : H.In w) (hR : Rw H A 8 f ds) (hl : ds.length ≤ 1000000) :
    Calls Tryz.prog 39 #[.slice A ds.length cap, .func (.func kf) #[] caps.toArray] w fun e w' => e = .returned (.int .i64 (idxF p ds)) ∧ Below w.heap.size w w' := by
  have HP := Lib.hid hp
  have HR := Lib.hid hR
  have HH := Lib.hid hH
  clear hp hR hH
  go_enter Tryz.func39, Tryz.ntmps39
  go_wp2_with fail
  go_loopw [5, 8] (fun _ t wr => ∃ i : Nat, i ≤ ds.length ∧ t = .int .i64 i ∧ Hid ((ds.take i).any p = false) ∧ Hid (Below w.heap.size w wr)) (fun _ t _ => ds.length - (intOf t).toNat)
  case atStart => exact ⟨0, by omega, rfl, rfl, Below.refl _ _⟩
  case round =>
    obtain ⟨i, hi, rfl, hall, hb⟩ := hrel
    by_cases hlt : i < ds.length
    · obtain ⟨b, off, rfl, hbl, hc⟩ := HR.out.at_ (HH.out.below hb.out) hlt (by omega)
      have c0 : wr.cell? ⟨b, off + i * 8, none⟩ = some (f ds[i] 0) := hc 0 (by omega)
      have c1 : wr.cell? ⟨b, off + i * 8 + 1, none⟩ = some (f ds[i] 1) := hc 1 (by omega)
      have c2 : wr.cell? ⟨b, off + i * 8 + 2, none⟩ = some (f ds[i] 2) := hc 2 (by omega)
      have c3 : wr.cell? ⟨b, off + i * 8 + 3, none⟩ = some (f ds[i] 3) := hc 3 (by omega)
      have c4 : wr.cell? ⟨b, off + i * 8 + 4, none⟩ = some (f ds[i] 4) := hc 4 (by omega)
      have c5 : wr.cell? ⟨b, off + i * 8 + 5, none⟩ = some (f ds[i] 5) := hc 5 (by omega)
      have c6 : wr.cell? ⟨b, off + i * 8 + 6, none⟩ = some (f ds[i] 6) := hc 6 (by omega)
      have c7 : wr.cell? ⟨b, off + i * 8 + 7, none⟩ = some (f ds[i] 7) := hc 7 (by omega)
      have HC := Lib.hid (fun W hW => HP.out W ds[i] (List.getElem_mem hlt) hW)
      have ht := Lib.hid (idxF_found (p := p) hlt hall.out)
      have ht2 := Lib.hid (any_take_succ (p := p) hlt hall.out)
      clear hc
      generalize hpd : p ds[i] = q at HC ht ht2
      generalize f ds[i] 0 = x0 at c0 HC
      generalize f ds[i] 1 = x1 at c1 HC
      generalize f ds[i] 2 = x2 at c2 HC
      generalize f ds[i] 3 = x3 at c3 HC
      generalize f ds[i] 4 = x4 at c4 HC
      generalize f ds[i] 5 = x5 at c5 HC
      generalize f ds[i] 6 = x6 at c6 HC
      generalize f ds[i] 7 = x7 at c7 HC
      clear hpd
      go_wp2_with fail
      refine (HC.out _ (HH.out.below hb.out)).mono ?_
      rintro e w1 ⟨rfl, hb1⟩
      have hb2 := Lib.hid (hb.out.trans (hb1.mono hb.out.size))
      clear hb1 hb
      cases q with
      | true =>
        go_wp2_with fail
        go_ret
        exact ⟨ret_int (ht.out (by simp)).symm, hb2.out⟩
      | false =>
        go_wp2_with fail
        go_roundw
        case rel => exact ⟨i + 1, by omega, by go_num, ht2.out (by simp), hb2⟩
        case measure => simp [intOf]; omega
    · have hf := Lib.hid (idxF_none (p := p) (show ds.any p = false by have := hall.out; rwa [List.take_of_length_le (by omega)] at this))
      go_wp2_with fail
      go_ret
      exact ⟨ret_int hf.out.symm, hb.out⟩
end
end Go.Proofs.YtbhccicibmcafaaGreatDoor

/- Delete in place: the list in the making. -/
namespace Go.Proofs.YtbhccicibmcafaaGreatDoor
set_option linter.unusedVariables false
open Go.RowKit
structure DelOk {D : Type} (p : D → Bool) (ds cur : List D) (i j : Nat) : Prop where
  len : cur.length = ds.length
  le : i < j
  lt : j ≤ ds.length
  low : cur.take i = (ds.take j).filter (fun d => !p d)
  high : cur.drop j = ds.drop j
section
variable {D : Type} {p : D → Bool} {ds cur : List D} {i j : Nat}
theorem DelOk.at_ (h : DelOk p ds cur i j) (hj : j < ds.length) : cur[j]'(by rw [h.len]; exact hj) = ds[j] := by
  have e := congrArg (fun l => l[0]?) h.high
  simp only [List.getElem?_drop, Nat.add_zero] at e
  rw [List.getElem?_eq_getElem (by rw [h.len]; exact hj), List.getElem?_eq_getElem hj] at e
  exact Option.some.inj e
theorem DelOk.drop (h : DelOk p ds cur i j) (hj : j < ds.length) (hp : p ds[j] = true) : DelOk p ds cur i (j + 1) := by
  refine ⟨h.len, by have := h.le; omega, hj, ?_, ?_⟩
  · rw [List.take_succ_eq_append_getElem hj, List.filter_append, h.low]
    simp [hp]
  · rw [← List.drop_drop, h.high, List.drop_drop]
theorem DelOk.keep (h : DelOk p ds cur i j) (hj : j < ds.length) (hp : p ds[j] = false) : DelOk p ds (cur.set i ds[j]) (i + 1) (j + 1) := by
  have hle := h.le
  have hl := h.len
  refine ⟨by simp [hl], by omega, hj, ?_, ?_⟩
  · rw [List.take_succ_eq_append_getElem (by simp; omega), List.take_set_of_le (Nat.le_refl _), h.low, List.take_succ_eq_append_getElem hj, List.filter_append]
    simp [hp]
  · rw [List.drop_set_of_lt (by omega), ← List.drop_drop, h.high, List.drop_drop]
theorem DelOk.done (h : DelOk p ds cur i ds.length) : cur.take i = ds.filter (fun d => !p d) := by rw [h.low, List.take_length]
theorem DelOk.start (hj : j < ds.length) (h : ∀ m (hm : m < j), p (ds[m]'(by omega)) = false) (hp : p ds[j] = true) : DelOk p ds ds j (j + 1) := by
  refine ⟨rfl, by omega, hj, ?_, rfl⟩
  rw [List.take_succ_eq_append_getElem hj, List.filter_append]
  have : (ds.take j).filter (fun d => !p d) = ds.take j := by
    rw [List.filter_eq_self]
    intro a ha
    obtain ⟨m, hm, rfl⟩ := List.getElem_of_mem ha
    simp only [List.length_take] at hm
    rw [List.getElem_take, h m (by omega)]
    rfl
  rw [this]
  simp [hp]
end
end Go.Proofs.YtbhccicibmcafaaGreatDoor

/- slices.DeleteFunc of statements. -/
namespace Go.Proofs.YtbhccicibmcafaaGreatDoor
set_option linter.unusedVariables false
open Go.RowKit
theorem setCells_eq (w : World) (b : Nat) : ∀ (vs : List Value) (o : Nat) (w : World), w.setCells b o vs = setK w b o vs
  | [], _, _ => rfl
  | v :: r, o, w => by rw [World.setCells, setK]; exact setCells_eq w b r (o + 1) _
/-- 'clear(s)', s a slice of n > 0 elements of k cells. -/
theorem run_clear_rows {P : Program} (w : World) (t e ty : TypeId) (z : Value) (ht : P.underlying t = some (.slice e)) (hv : ∀ w, (zeroValue e).run P w = .ok z w) (k : Nat) (hk : z.cells.size = k) (h0 : 0 < k) (h1 : ∀ v ∈ z.cells.toList, v.oneCell' = true) (b o n c : Nat) (hn : 0 < n)
    (hc : ∀ j, j < n * k → (w.cell? ⟨b, o + j, none⟩).isSome = true) (hf : ∀ j, j < n * k → w.frozen? ⟨b, o + j, none⟩ = false) :
    (Builtin.clear_ #[t] ty #[.slice (some ⟨b, o, none⟩) n c]).run P w = .ok (.tuple #[]) (setK w b o (Builtin.zeroCells z.cells n).toList) := by
  have hl : (Builtin.zeroCells z.cells n).toList.length = n * k := by rw [Array.length_toList, size_zeroCells, hk]
  have hst := run_storeCells_cells (P := P) b o (Builtin.zeroCells z.cells n).toList 0 w (by rw [hl]; simpa using hc) (by rw [hl]; simpa using hf) (by
    intro v hv'
    simp only [Builtin.zeroCells, Array.toList_map, List.mem_map] at hv'
    obtain ⟨i, _, rfl⟩ := hv'
    apply h1
    rw [getElem!_pos z.cells (i % z.cells.size) (Nat.mod_lt _ (by omega))]
    simp)
  simp only [Nat.add_zero] at hst
  obtain ⟨m, rfl⟩ : ∃ m, n = m + 1 := ⟨n - 1, by omega⟩
  simp [Builtin.clear_, run_underlying ht, hv, hst, setCells_eq w b]
/-- The first elements of a block stay, the others are overwritten. -/
theorem KBlk.cut {D : Type} {w : World} {g T k : Nat} {f : D → Nat → Value} {ds : List D} {rest : List Value} (h : KBlk w g T k f ds rest) {i : Nat} (hi : i ≤ ds.length) (l : List Value) (hl : l.length = (ds.length - i) * k) :
    KBlk (setK w g (i * k) l) g T k f (ds.take i) (l ++ rest) := by
  unfold KBlk at h ⊢
  have hm : i * k + (ds.length - i) * k = ds.length * k := by rw [← Nat.add_mul]; congr 1; omega
  have hL := cellsOf_len k f ds
  rw [setK_heap w g (i * k) l h (by simp only [List.size_toArray, List.length_append]; omega)]
  have e : cellsOf k f ds = cellsOf k f (ds.take i) ++ cellsOf k f (ds.drop i) := by rw [← cellsOf_split, List.take_append_drop]
  have l1 : (cellsOf k f (ds.take i)).length = i * k := by rw [cellsOf_len, List.length_take]; congr 1; omega
  congr 3
  rw [e, List.append_assoc, List.append_assoc, List.take_left' l1]
  congr 1
  congr 1
  rw [← List.append_assoc, List.drop_left' (by rw [List.length_append, l1, cellsOf_len, List.length_drop, hl])]
theorem Frz.Le.in_ {H H' : Frz} {W : World} (hl : H.Le H') (h : H'.In W) : H.In W := fun b o e => h b o (hl b o e)
set_option maxHeartbeats 4000000 in
set_option maxRecDepth 100000 in
theorem deleteFunc_St (H : Frz) (kf : Nat) (caps : List Value) (p : StD → Bool) (ds : List StD)
    (hp : ∀ (W : World) (d : StD), d ∈ ds → H.In W → Calls Tryz.prog kf ((.agg #[.int .i64 d.no, .int .i64 d.at_, .int .i64 d.kind, .string d.text, .string d.purp, .string d.region, .int .i64 d.ch, .int .i64 d.what] : Value) :: caps).toArray W fun e W' => e = .returned (.bool (p d)) ∧ Below W.heap.size W W')
    (hcall : ∀ (a : Value) (W : World), (callFunc kf (a :: caps).toArray).run Tryz.prog W = .ok (.enter kf (a :: caps).toArray) W)
    (B : Nat) (v : Value) (w : World) (hH : H.In w) (hO : Orow w B 43 8 fSt v ds) (hf : ∀ q, v.ownBlock = some q → H q = none) (hl : ds.length ≤ 100000) :
    Calls Tryz.prog 13 #[v, .func (.func kf) #[] caps.toArray] w fun e w' => (∃ v', e = .returned v' ∧ Orow w' B 43 8 fSt v' (ds.filter fun d => !p d) ∧ (v'.ownBlock = v.ownBlock)) ∧ w.grownBy w' v.ownBlock := by
  obtain ⟨A, cap, H', hv, hle, p1, p2, hR, p3, p4⟩ := hO.freeze H
  subst hv
  have hin := p1 hH
  have hle2 := p2 hf
  have hp' : ∀ (W : World) (d : StD), d ∈ ds → H'.In W → Calls Tryz.prog kf ((.agg #[fSt d 0, fSt d 1, fSt d 2, fSt d 3, fSt d 4, fSt d 5, fSt d 6, fSt d 7] : Value) :: caps).toArray W fun e W' => e = .returned (.bool (p d)) ∧ Below W.heap.size W W' := fun W d hd hW => hp W d hd (hle2.in_ hW)
  have HIX := Lib.hid (fun W (hW : H'.In W) => indexFunc_St H' fSt kf caps p ds hp' hcall A cap W hW hR (by omega))
  have HO := Lib.hid hO
  have HP := Lib.hid hp
  rcases idxF_cases p ds with ⟨e0, hno⟩ | ⟨i, hi, e0, hpi⟩
  · have HE := Lib.hid e0
    go_enter Tryz.func13, Tryz.ntmps13
    have HIN := Lib.hid hin
    clear hp hp' hO hf hR hH hin hle2 p1 p2 p3 p4 e0
    go_wp2_with fail
    refine (HIX.out w HIN.out).mono ?_
    rintro e w1 ⟨rfl, hb⟩
    rw [HE.out]
    have HF : Hid ((∃ v', Ending.returned (.slice A ds.length cap) = .returned v' ∧ Orow w1 B 43 8 fSt v' (ds.filter fun d => !p d) ∧ (v'.ownBlock = (Value.slice A ds.length cap).ownBlock)) ∧ w.grownBy w1 (Value.slice A ds.length cap).ownBlock) := by
      refine ⟨⟨_, rfl, ?_, rfl⟩, ⟨hb.os, hb.tape, hb.output, hb.size, fun k hk _ => hb.block k hk⟩⟩
      rw [List.filter_eq_self.2 (fun d hd => by rw [hno d hd]; rfl)]
      exact HO.out.below hb
    clear hb
    go_wp2_with fail
    go_ret
    exact HF.out
  · have hbf : ∀ m (hm : m < i), p (ds[m]'(by omega)) = false := by
      intro m hm
      unfold idxF at e0
      cases e : ds.findIdx? p with
      | none =>
        rw [e] at e0
        have : (-1 : Int) = (i : Int) := e0
        omega
      | some k =>
        rw [e] at e0
        have e1 : k = i := by simp at e0; omega
        subst e1
        have := (List.findIdx?_eq_some_iff_getElem.1 e).2.2 m hm
        simpa using this
    have hD0 := Lib.hid (DelOk.start hi hbf hpi)
    have HE := Lib.hid e0
    have HIN := Lib.hid hin
    have HH := Lib.hid hH
    obtain ⟨g, cap2, rest, hv2, hlc, hBg, hg, hm, hk, hr⟩ := hO.form (fun c => by subst c; exact absurd hi (by simp))
    injection hv2 with e1 e2 e3
    subst e1 e3
    have hgn : H g = none := hf g rfl
    have HKB := Lib.hid hk
    have HRE := Lib.hid hr
    clear hp hp' hO hf hR hH hin hle2 p1 p2 p3 p4 e0 hbf hpi hk hr e2 HO
    have hm1 : ((i : Int) == -1) = false := by rw [beq_eq_false_iff_ne]; omega
    go_enter Tryz.func13, Tryz.ntmps13
    go_wp2_with fail
    refine (HIX.out w HIN.out).mono ?_
    rintro e w1 ⟨rfl, hb⟩
    rw [HE.out]
    have hK1 := Lib.hid (HKB.out.keep hb)
    have hG1 : Hid (w.grownBy w1 (some g)) := ⟨hb.os, hb.tape, hb.output, hb.size, fun k hk _ => hb.block k hk⟩
    clear hb HIX HIN HKB
    go_wp2_with fail
    clear HE
    go_loopw [5, 6, 7] (fun t5 t6 _ wr => ∃ (i j : Nat) (cur : List StD), t5 = .int .i64 i ∧ t6 = .int .i64 j ∧ Hid (DelOk p ds cur i j) ∧ Hid (KBlk wr g 43 8 fSt cur rest) ∧ Hid (w.grownBy wr (some g))) (fun _ t _ _ => ds.length - (intOf t).toNat)
    case atStart => exact ⟨i, i + 1, ds, rfl, by go_num, hD0, hK1, hG1⟩
    case round =>
      obtain ⟨i, j, cur, rfl, rfl, hD, hk, hG⟩ := hrel
      clear hD0 hK1 hG1
      by_cases hj : j < ds.length
      · have hjc : j < cur.length := by rw [hD.out.len]; exact hj
        have hcell := hk.out.cell j
        have c0 : wr.cell? ⟨g, j * 8, none⟩ = some (fSt ds[j] 0) := by have := hk.out.cell j 0 hjc (by omega); rw [hD.out.at_ hj] at this; exact this
        have c1 : wr.cell? ⟨g, j * 8 + 1, none⟩ = some (fSt ds[j] 1) := by have := hk.out.cell j 1 hjc (by omega); rw [hD.out.at_ hj] at this; exact this
        have c2 : wr.cell? ⟨g, j * 8 + 2, none⟩ = some (fSt ds[j] 2) := by have := hk.out.cell j 2 hjc (by omega); rw [hD.out.at_ hj] at this; exact this
        have c3 : wr.cell? ⟨g, j * 8 + 3, none⟩ = some (fSt ds[j] 3) := by have := hk.out.cell j 3 hjc (by omega); rw [hD.out.at_ hj] at this; exact this
        have c4 : wr.cell? ⟨g, j * 8 + 4, none⟩ = some (fSt ds[j] 4) := by have := hk.out.cell j 4 hjc (by omega); rw [hD.out.at_ hj] at this; exact this
        have c5 : wr.cell? ⟨g, j * 8 + 5, none⟩ = some (fSt ds[j] 5) := by have := hk.out.cell j 5 hjc (by omega); rw [hD.out.at_ hj] at this; exact this
        have c6 : wr.cell? ⟨g, j * 8 + 6, none⟩ = some (fSt ds[j] 6) := by have := hk.out.cell j 6 hjc (by omega); rw [hD.out.at_ hj] at this; exact this
        have c7 : wr.cell? ⟨g, j * 8 + 7, none⟩ = some (fSt ds[j] 7) := by have := hk.out.cell j 7 hjc (by omega); rw [hD.out.at_ hj] at this; exact this
        clear hcell
        have hlen : cur.length = ds.length := hD.out.len
        have hij := hD.out.le
        have di : decide ((j : Int) < (ds.length : Int)) = true := by simp; exact hj
        have HK := Lib.hid (fun h => hD.out.keep hj h)
        have HDr := Lib.hid (fun h => hD.out.drop hj h)
        have HC := Lib.hid (fun W hW => HP.out W ds[j] (List.getElem_mem hj) hW)
        generalize hd : ds[j] = d at *
        generalize hpd : p d = q at *
        clear hd hpd
        simp only [fSt] at c0 c1 c2 c3 c4 c5 c6 c7
        have hcallj := hcall (.agg #[.int .i64 d.no, .int .i64 d.at_, .int .i64 d.kind, .string d.text, .string d.purp, .string d.region, .int .i64 d.ch, .int .i64 d.what])
        have HIN9 := Lib.hid ((HH.out.grown hG.out hgn).alloc (.cells #[.int .i64 d.no, .int .i64 d.at_, .int .i64 d.kind, .string d.text, .string d.purp, .string d.region, .int .i64 d.ch, .int .i64 d.what] 43))
        have hb9 : Below wr.heap.size wr (wr.alloc (.cells #[.int .i64 d.no, .int .i64 d.at_, .int .i64 d.kind, .string d.text, .string d.purp, .string d.region, .int .i64 d.ch, .int .i64 d.what] 43)) := (Below.refl _ _).alloc (Nat.le_refl _) _
        have hk9 := Lib.hid (hk.out.keep hb9)
        have hG9 : Hid (w.grownBy (wr.alloc (.cells #[.int .i64 d.no, .int .i64 d.at_, .int .i64 d.kind, .string d.text, .string d.purp, .string d.region, .int .i64 d.ch, .int .i64 d.what] 43)) (some g)) := hG.out.trans ⟨hb9.os, hb9.tape, hb9.output, hb9.size, fun k hk _ => hb9.block k hk⟩
        have HX9 : Hid ((wr.alloc (.cells #[.int .i64 d.no, .int .i64 d.at_, .int .i64 d.kind, .string d.text, .string d.purp, .string d.region, .int .i64 d.ch, .int .i64 d.what] 43)).heap[wr.heap.size]? = some (.cells #[.int .i64 d.no, .int .i64 d.at_, .int .i64 d.kind, .string d.text, .string d.purp, .string d.region, .int .i64 d.ch, .int .i64 d.what] 43)) := heap_alloc_new _ _
        clear hb9
        go_wp2_with fail
        refine (HC.out _ (HIN9.out)).mono ?_
        rintro e w2 ⟨rfl, hb⟩
        have hk2 := hk9.out.keep hb
        have hG2 : Hid (w.grownBy w2 (some g)) := hG9.out.trans ⟨hb.os, hb.tape, hb.output, hb.size, fun k hk _ => hb.block k hk⟩
        have hx := (hb.block _ (lt_of_heap HX9.out)).trans HX9.out
        have hin2 := HIN9.out.below hb
        have x0 : w2.cell? ⟨wr.heap.size, 0, none⟩ = some (.int .i64 d.no) := cell_h hx 0 rfl
        have x1 : w2.cell? ⟨wr.heap.size, 1, none⟩ = some (.int .i64 d.at_) := cell_h hx 1 rfl
        have x2 : w2.cell? ⟨wr.heap.size, 2, none⟩ = some (.int .i64 d.kind) := cell_h hx 2 rfl
        have x3 : w2.cell? ⟨wr.heap.size, 3, none⟩ = some (.string d.text) := cell_h hx 3 rfl
        have x4 : w2.cell? ⟨wr.heap.size, 4, none⟩ = some (.string d.purp) := cell_h hx 4 rfl
        have x5 : w2.cell? ⟨wr.heap.size, 5, none⟩ = some (.string d.region) := cell_h hx 5 rfl
        have x6 : w2.cell? ⟨wr.heap.size, 6, none⟩ = some (.int .i64 d.ch) := cell_h hx 6 rfl
        have x7 : w2.cell? ⟨wr.heap.size, 7, none⟩ = some (.int .i64 d.what) := cell_h hx 7 rfl
        clear hb hx c0 c1 c2 c3 c4 c5 c6 c7 hk hG hk9 hG9 HX9 HIN9
        cases q with
        | true =>
          have hD2 := Lib.hid (HDr.out rfl)
          have HK2 := Lib.hid hk2
          clear HDr HK hk2 hin2 hcallj
          go_wp2_with fail
          go_roundw
          case rel => exact ⟨i, j + 1, cur, rfl, by go_num, hD2, HK2, hG2⟩
          case measure => simp [intOf]; omega
        | false =>
          have hic : i < cur.length := by omega
          have hD2 := Lib.hid (HK.out rfl)
          have HKP := Lib.hid (hk2.put i hic d)
          have HGP := Lib.hid (setK_grown (i * 8) ((List.range 8).map (fSt d)) hG2.out)
          have r0 := hk2.cell i 0 hic (by omega)
          have s0 := hk2.frozen (i * 8)
          have r1 := hk2.cell i 1 hic (by omega)
          have s1 := hk2.frozen (i * 8 + 1)
          have r2 := hk2.cell i 2 hic (by omega)
          have s2 := hk2.frozen (i * 8 + 2)
          have r3 := hk2.cell i 3 hic (by omega)
          have s3 := hk2.frozen (i * 8 + 3)
          have r4 := hk2.cell i 4 hic (by omega)
          have s4 := hk2.frozen (i * 8 + 4)
          have r5 := hk2.cell i 5 hic (by omega)
          have s5 := hk2.frozen (i * 8 + 5)
          have r6 := hk2.cell i 6 hic (by omega)
          have s6 := hk2.frozen (i * 8 + 6)
          have r7 := hk2.cell i 7 hic (by omega)
          have s7 := hk2.frozen (i * 8 + 7)
          simp only [Nat.add_zero] at r0
          clear HDr HK hk2 hin2 hcallj hG2
          go_wp2_with fail
          go_roundw
          case rel => exact ⟨i + 1, j + 1, cur.set i d, by go_num, by go_num, hD2, HKP, HGP⟩
          case measure => simp [intOf]; omega
      · have hje : j = ds.length := by have := hD.out.lt; omega
        subst hje
        have hlen : cur.length = ds.length := hD.out.len
        have hij := hD.out.le
        have hdone := Lib.hid hD.out.done
        obtain ⟨z0, hz0⟩ : ∃ z : Value, z = .agg #[.int .i64 0, .int .i64 0, .int .i64 0, .string ⟨#[]⟩, .string ⟨#[]⟩, .string ⟨#[]⟩, .int .i64 0, .int .i64 0] := ⟨_, rfl⟩
        have hzs : z0.cells.size = 8 := by rw [hz0]; rfl
        have hm8 : i * 8 + (ds.length - i) * 8 = ds.length * 8 := by omega
        have hcl : ∀ ty, (Builtin.clear_ #[28] ty #[.slice (some ⟨g, i * 8, none⟩) (ds.length - i) (cap - i)]).run Tryz.prog wr = .ok (.tuple #[]) (setK wr g (i * 8) (Builtin.zeroCells z0.cells (ds.length - i)).toList) :=
          fun ty => run_clear_rows wr _ _ ty z0 Tryz.underlying28 (fun w => by rw [hz0]; kernel_rfl) 8 hzs (by omega) (by rw [hz0]; simp [Value.cells, Value.oneCell']) g (i * 8) _ _ (by omega) (fun q hq => by
            have h1 := hk.out.cell (i + q / 8) (q % 8) (by omega) (by omega)
            rw [show i * 8 + q = (i + q / 8) * 8 + q % 8 from by omega, h1]; rfl) (fun q hq => hk.out.frozen _)
        have hKC := Lib.hid (hk.out.cut (i := i) (by omega) (Builtin.zeroCells z0.cells (ds.length - i)).toList (by rw [Array.length_toList, size_zeroCells, hzs]; omega))
        have hGC := Lib.hid (setK_grown (i * 8) (Builtin.zeroCells z0.cells (ds.length - i)).toList hG.out)
        have hLC : Hid ((Builtin.zeroCells z0.cells (ds.length - i)).toList.length = (ds.length - i) * 8) := by show _ = _; rw [Array.length_toList, size_zeroCells, hzs]
        generalize setK wr g (i * 8) (Builtin.zeroCells z0.cells (ds.length - i)).toList = w9 at *
        have HF : Hid ((∃ v', Ending.returned (.slice (some ⟨g, 0, none⟩) i cap) = .returned v' ∧ Orow w9 B 43 8 fSt v' (ds.filter fun d => !p d) ∧ (v'.ownBlock = (Value.slice (some ⟨g, 0, none⟩) ds.length cap).ownBlock)) ∧ w.grownBy w9 (Value.slice (some ⟨g, 0, none⟩) ds.length cap).ownBlock) := by
          refine ⟨⟨_, rfl, ?_, rfl⟩, hGC.out⟩
          have hli : (cur.take i).length = i := by rw [List.length_take]; omega
          have := Orow.of_blk (cap := cap) hKC.out hBg hm (by omega) (by rw [List.length_append, hLC.out, HRE.out, hli]; omega)
          rw [hli] at this
          rw [← hdone.out]
          exact this
        clear hD hk hG hKC hGC hLC hz0 hzs hm8 hdone
        go_wp2_with fail
        go_ret
        exact HF.out
end Go.Proofs.YtbhccicibmcafaaGreatDoor

/- The predicate of the look back. -/
namespace Go.Proofs.YtbhccicibmcafaaGreatDoor
set_option linter.unusedVariables false
open Go.RowKit
set_option maxHeartbeats 1000000 in
set_option maxRecDepth 100000 in
theorem later_any {H : Frz} {g : Nat} {a : Int} (hc : H.cell? ⟨g, 5, none⟩ = some (.int .i64 a)) (d : StD) (W : World) (hH : H.In W) :
    Calls Tryz.prog 15 #[.agg #[.int .i64 d.no, .int .i64 d.at_, .int .i64 d.kind, .string d.text, .string d.purp, .string d.region, .int .i64 d.ch, .int .i64 d.what], .pointer (some ⟨g, 0, none⟩)] W fun e W' => e = .returned (.bool (decide (a < d.at_))) ∧ Below W.heap.size W W' := by
  have c5 := hH.cell hc
  have z0 : (W.alloc (.cells #[.int .i64 d.no, .int .i64 d.at_, .int .i64 d.kind, .string d.text, .string d.purp, .string d.region, .int .i64 d.ch, .int .i64 d.what] 43)).cell? ⟨W.heap.size, 0, none⟩ = some (.int .i64 d.no) := newc 0 rfl
  have z1 : (W.alloc (.cells #[.int .i64 d.no, .int .i64 d.at_, .int .i64 d.kind, .string d.text, .string d.purp, .string d.region, .int .i64 d.ch, .int .i64 d.what] 43)).cell? ⟨W.heap.size, 1, none⟩ = some (.int .i64 d.at_) := newc 1 rfl
  have z2 : (W.alloc (.cells #[.int .i64 d.no, .int .i64 d.at_, .int .i64 d.kind, .string d.text, .string d.purp, .string d.region, .int .i64 d.ch, .int .i64 d.what] 43)).cell? ⟨W.heap.size, 2, none⟩ = some (.int .i64 d.kind) := newc 2 rfl
  have z3 : (W.alloc (.cells #[.int .i64 d.no, .int .i64 d.at_, .int .i64 d.kind, .string d.text, .string d.purp, .string d.region, .int .i64 d.ch, .int .i64 d.what] 43)).cell? ⟨W.heap.size, 3, none⟩ = some (.string d.text) := newc 3 rfl
  have z4 : (W.alloc (.cells #[.int .i64 d.no, .int .i64 d.at_, .int .i64 d.kind, .string d.text, .string d.purp, .string d.region, .int .i64 d.ch, .int .i64 d.what] 43)).cell? ⟨W.heap.size, 4, none⟩ = some (.string d.purp) := newc 4 rfl
  have z5 : (W.alloc (.cells #[.int .i64 d.no, .int .i64 d.at_, .int .i64 d.kind, .string d.text, .string d.purp, .string d.region, .int .i64 d.ch, .int .i64 d.what] 43)).cell? ⟨W.heap.size, 5, none⟩ = some (.string d.region) := newc 5 rfl
  have z6 : (W.alloc (.cells #[.int .i64 d.no, .int .i64 d.at_, .int .i64 d.kind, .string d.text, .string d.purp, .string d.region, .int .i64 d.ch, .int .i64 d.what] 43)).cell? ⟨W.heap.size, 6, none⟩ = some (.int .i64 d.ch) := newc 6 rfl
  have z7 : (W.alloc (.cells #[.int .i64 d.no, .int .i64 d.at_, .int .i64 d.kind, .string d.text, .string d.purp, .string d.region, .int .i64 d.ch, .int .i64 d.what] 43)).cell? ⟨W.heap.size, 7, none⟩ = some (.int .i64 d.what) := newc 7 rfl
  have HBN := Lib.hid (new1 (w := W) (.cells #[.int .i64 d.no, .int .i64 d.at_, .int .i64 d.kind, .string d.text, .string d.purp, .string d.region, .int .i64 d.ch, .int .i64 d.what] 43))
  have c6 : (W.alloc (.cells #[.int .i64 d.no, .int .i64 d.at_, .int .i64 d.kind, .string d.text, .string d.purp, .string d.region, .int .i64 d.ch, .int .i64 d.what] 43)).cell? ⟨g, 5, none⟩ = some (.int .i64 a) := (World.cell?_alloc_lt W _ _ (World.block_lt_of_cell? W _ c5)).trans c5
  have hb : Hid (Below W.heap.size W (W.alloc (.cells #[.int .i64 d.no, .int .i64 d.at_, .int .i64 d.kind, .string d.text, .string d.purp, .string d.region, .int .i64 d.ch, .int .i64 d.what] 43))) := (Below.refl _ _).alloc (Nat.le_refl _) _
  clear c5 hc
  go_enter Tryz.func15, Tryz.ntmps15
  go_wp2_with fail
  go_ret
  exact ⟨rfl, hb.out⟩
end Go.Proofs.YtbhccicibmcafaaGreatDoor

/- What the listed variables hold when a law begins: the pool of ids; a number of the library's. The wrap of a row over listed variables, the world's shape kept. -/
namespace Go.Proofs.YtbhccicibmcafaaGreatDoor
set_option linter.unusedVariables false
open Go.RowKit
/-- All the memory of a world. -/
def memH (w : World) : Frz := fun b => w.heap[b]?
theorem memH_in (w : World) : (memH w).In w := fun b o h => h
theorem memH_cell {w : World} {b o : Nat} {v : Value} (h : w.cell? ⟨b, o, none⟩ = some v) : (memH w).cell? ⟨b, o, none⟩ = some v := by
  unfold Frz.cell? memH
  simp only [World.cell?] at h ⊢
  split at h <;> simp_all
def VarHolds (P : Program) (w : World) (n : String) (d : DataW Unit) : Prop :=
  ∃ g t cs fuel p, P.globalNamed n = some g ∧ (P.globals[g]?).map (·.type) = some t ∧ w.var? P n = some cs ∧ DataW.trod (fun _ => ()) P w 0 (fun _ => true) false fuel t cs.toList = some (d, p)
theorem laid_holds {P : Program} {w : World} : ∀ {l : List (String × DataW Unit)} {ps : List MemPlace}, DataW.LaidVars P w l ps → ∀ n d, (n, d) ∈ l → VarHolds P w n d
  | [], _, _, _, _, hm => by cases hm
  | (n', d') :: r, ps, h, n, d, hm => by
    obtain ⟨g, t, cs, fuel, p, q, h1, h2, h3, h4, h5, _⟩ := h
    rcases List.mem_cons.1 hm with e | e
    · cases e
      exact ⟨g, t, cs, fuel, p, h1, h2, h3, h4⟩
    · exact laid_holds h5 n d e
theorem laidH_holds {P : Program} {w : World} {l : List (String × DataW Unit)} (h : laidMetH P l w) (hl : (l.all fun x => x.2.handleName?.isNone) = true) {n : String} {d : DataW Unit} (hm : (n, d) ∈ l) : VarHolds P w n d := by
  rw [MakeChecks.laidMetH_plain _ _ _ hl] at h
  obtain ⟨ps, hv, _⟩ := h
  exact laid_holds hv n d hm
def poolData : DataW Unit := .agg (poolL.map fun x => .agg [.lit (.int .i64 x.1), .lit (.string x.2)])
theorem pool_of {w : World} (h : VarHolds Tryz.prog w "handbill/handmake.idPool" poolData) : PoolIn (memH w) := by
  obtain ⟨g, t, cs, fuel, p, hg, hty, hvar, hd⟩ := h
  obtain rfl := Option.some.inj ((show Tryz.prog.globalNamed "handbill/handmake.idPool" = some 0 by kernel_rfl).symm.trans hg)
  obtain rfl := Option.some.inj ((show (Tryz.prog.globals[0]?).map (·.type) = some 88 by kernel_rfl).symm.trans hty)
  obtain ⟨xs, m, -, hx, hl, hxl, hf⟩ := DataW.trod_array Tryz.underlying88 hd
  have hce : Tryz.prog.cellsOf 32 = 2 := by kernel_rfl
  have hci : Tryz.prog.cellsOf 3 = 1 := by kernel_rfl
  have hcs : Tryz.prog.cellsOf 9 = 1 := by kernel_rfl
  have hdx : xs.map (·.1) = poolL.map fun x => (DataW.agg [.lit (.int .i64 x.1), .lit (.string x.2)] : DataW Unit) := by
    have := congrArg Prod.fst hx
    simpa [poolData] using this.symm
  intro i hi
  have hi10 : i < 10 := hi
  have h1 := hf i hi10
  rw [hce] at h1
  have hix : i < xs.length := by omega
  rw [List.getElem?_eq_getElem hix] at h1
  have hpx : poolL[i]? = some poolL[i] := List.getElem?_eq_getElem hi
  generalize poolL[i] = x at hpx ⊢
  have hd1 : xs[i].1 = DataW.agg [.lit (.int .i64 x.1), .lit (.string x.2)] := by
    have := congrArg (fun l => l[i]?) hdx
    simp only [List.getElem?_map] at this
    rw [List.getElem?_eq_getElem hix, hpx] at this
    exact Option.some.inj this
  obtain ⟨y0, y1, n, hy, hl2, a0, a1⟩ := Go.ChangeShapes.trod_struct2 Tryz.underlying32 h1
  have hy' := (congrArg Prod.fst hy).symm.trans hd1
  simp only [DataW.agg.injEq, List.cons.injEq, and_true] at hy'
  obtain ⟨e0, e1⟩ := hy'
  obtain ⟨z, c0, v0, -⟩ := DataW.trod_int Tryz.underlying3 a0
  obtain ⟨s, c1, v1, -⟩ := DataW.trod_string Tryz.underlying9 a1
  have ez := (congrArg Prod.fst v0).symm.trans e0
  have es := (congrArg Prod.fst v1).symm.trans e1
  simp only [DataW.lit.injEq, Lit.int.injEq, true_and, Lit.string.injEq] at ez es
  subst ez
  simp only [hci, hcs] at c0 c1
  have k0 := congrArg (fun l => l[0]?) c0
  have k1 := congrArg (fun l => l[0]?) c1
  simp [List.getElem?_drop] at k0 k1
  refine ⟨memH_cell ?_, memH_cell ?_⟩
  · rw [World.var?_cell hg hvar (i * 2), ← Array.getElem?_toList]
    simpa using k0
  · rw [World.var?_cell hg hvar (i * 2 + 1), ← Array.getElem?_toList]
    rw [← es]
    simpa using k1
theorem mlen_of {w : World} (h : w.ShapedOpen Tryz.prog) : MLen (memH w) := by
  obtain ⟨m, hm⟩ := Go.Proofs.cell_of_shapedOpen_int (P := Tryz.prog) (g := 1) (t := 3) (zero := #[.int .i64 0]) h (of_decide_eq_true (by kernel_rfl)) (by kernel_rfl) rfl (by kernel_rfl) (by kernel_rfl) Tryz.underlying3
  exact ⟨m, memH_cell hm⟩
/-- What a law over the pool is told of its world. -/
structure GlobOk (w : World) : Prop where
  pool : PoolIn (memH w)
  mlen : MLen (memH w)
theorem globOk_of {w : World} {l : List (String × DataW Unit)} (h : laidMetH Tryz.prog l w) (hl : (l.all fun x => x.2.handleName?.isNone) = true) (hm : ("handbill/handmake.idPool", poolData) ∈ l) (hs : w.ShapedOpen Tryz.prog) : GlobOk w :=
  ⟨pool_of (laidH_holds h hl hm), mlen_of hs⟩
/-- The state of a law whose memory stays whole. -/
theorem Lw.whole {w : World} {a : Option Addr} {len cap : Nat} {zs : List Int} (h : IsRow .i64 w a len cap zs) :
    Lw w w.heap.size 0 (memH w) (w.alloc (.cells #[.slice a len cap, .int .i64 0] 25)) :=
  ⟨St.of_row h, (Below.refl _ _).alloc (Nat.le_refl _) _, Nat.le_refl _, (memH_in w).alloc _, Array.getElem?_eq_none (Nat.le_refl _)⟩
theorem handed_and {H : Type} {enc : TypeId × Value → H} {a : Assume} {C : Checked} {os : Os} {f : FuncId} {fn : Func} {s : ChangeSpec} {conds : List PathCond} {apart fresh handsOn again : Bool} {X : World → Array Value → Prop}
    (hX : ∀ (w w' : World) (args : Array Value), w.heap = w'.heap → X w args → X w' args)
    (own : ownKnob C.prog.godebug = none) (started : os.Started) (noInit : C.prog.inits.idxOf? f = none) (hfn : C.prog.funcs[f]? = some fn)
    (witness : ∃ (w : World) (tape : Tape) (i : Input), w.os = os ∧ (w.forCall tape i).Shaped C.prog ∧ i.vars = [] ∧ Input.okWide C.prog (w.forCall tape i) .any w.heap.size f i ∧
      ((s.pre enc C.prog fn conds apart (w.forCall tape i).memory i.args ∧ X (w.forCall tape i).memory i.args) ∧ sizedMet enc C.prog fn (OpenSpec.ofChange s) apart (w.forCall tape i).memory i.args) ∧ a.holds C.prog (lone (Frame.enter C.prog f i.args .normal) [] (w.forCall tape i)))
    (contract : ∀ (W : World) (base : Nat) (args : Array Value) (ds gs : List (DataW H)) (before : List MemPlace),
      (∀ (j : Nat) t v, fn.params[j]? = some t → args[j]? = some v → Value.okWide C.prog W .any base t v) →
      DataW.Whole enc C.prog fn.params.toList s.vars apart W args.toList ds gs before →
      X W args → W.ShapedOpen C.prog →
      Calls C.prog f args W fun e W' => ∃ v, e = .returned v ∧ s.post enc C.prog fn apart fresh handsOn again W args v W') :
    ReturnsInHanded a C os f .any (fun w args => (s.pre enc C.prog fn conds apart w args ∧ X w args) ∧ sizedMet enc C.prog fn (OpenSpec.ofChange s) apart w args) (s.post enc C.prog fn apart fresh handsOn again) := by
  refine returnsInHanded_of_calls own started noInit witness ?_
  intro w tape i _ hsh _ hok hpre hholds
  obtain ⟨_, _, _, fn', hfn', _, _, _, _, hval⟩ := hok
  have e : fn' = fn := Option.some.inj (hfn'.symm.trans hfn)
  subst e
  obtain ⟨⟨⟨ds, gs, before, hw, hc⟩, hx⟩, hz⟩ := hpre
  have hw' := DataW.Whole.of_heap (w' := w.forCall tape i) (by rfl) hw
  refine (contract (w.forCall tape i) w.heap.size i.args ds gs before hval hw' (hX _ _ _ (by rfl) hx) hsh).mono fun e W' ⟨v, he, hp⟩ => ?_
  subst he
  exact ChangeSpec.post_blind hp
end Go.Proofs.YtbhccicibmcafaaGreatDoor

/- handkeep2.consents returns true. -/
namespace Go.Proofs.YtbhccicibmcafaaGreatDoor
set_option linter.unusedVariables false
open Go.RowKit
def mailB : ByteArray := ⟨#[97, 64, 98, 46, 100, 101]⟩
def newsB : ByteArray := ⟨#[110, 101, 119, 115]⟩
def euB : ByteArray := ⟨#[101, 117]⟩
def consPs (A : Option Addr) : List PurD := [⟨newsB, A, 1, [⟨euB, 1, true, 0, 0⟩]⟩]
theorem pu0 (A : Option Addr) : puErr (consPs A) 0 = 0 := by
  have h1 : isKey newsB = true := by decide +kernel
  have h2 : tesErr [⟨euB, 1, true, 0, 0⟩] = 0 := by decide +kernel
  rw [puErr_at (show 0 < (consPs A).length by simp [consPs]), if_neg (by show ¬ isKey newsB = false; rw [h1]; simp), if_neg (by omega)]
  exact h2
theorem cons_pol (A : Option Addr) : polErr (consPs A) = 0 := by
  have hl : (consPs A).length = 1 := rfl
  unfold polErr
  rw [hl, if_neg (by omega), if_neg (by omega), fstErr_zero]
  intro i hi
  obtain rfl : i = 0 := by omega
  exact pu0 A
theorem cons_pur (A : Option Addr) : purF (consPs A) newsB = some ⟨newsB, A, 1, [⟨euB, 1, true, 0, 0⟩]⟩ := by
  unfold purF consPs
  rw [List.find?_cons, eqS_self]
theorem cons_term (A : Option Addr) : termF (consPs A) newsB euB 1 = some ⟨euB, 1, true, 0, 0⟩ := by
  unfold termF
  rw [cons_pur]
  have : teF [⟨euB, 1, true, 0, 0⟩] euB 1 = some ⟨euB, 1, true, 0, 0⟩ := by
    unfold teF
    rw [List.find?_cons, eqS_self]
    rfl
  exact this
theorem cons_err (A : Option Addr) : allErr (consPs A) [] [⟨1, mailB⟩] 1 newsB euB 1 0 = 0 := by
  have h1 : sayErr idErr (consPs A) [] = 0 := by
    unfold sayErr
    rw [if_neg (by rw [cons_pol]; simp), if_neg (by simp)]
    rfl
  have h2 : idsErr [⟨1, mailB⟩] 1 = 0 := by rw [idsErr_one]; decide +kernel
  have h3 : queErr (consPs A) newsB euB 1 0 = 0 := by
    unfold queErr
    rw [cons_pur]
    have : isKey euB = true := by decide +kernel
    rw [this]
    rfl
  unfold allErr
  rw [h1, h2, h3]
  rfl
theorem cons_may (A : Option Addr) : mayA (consPs A) [] 1 mailB newsB euB 1 0 = ⟨true, 1, 0⟩ := by
  unfold mayA
  rw [if_neg (by rw [cons_err]; simp)]
  unfold askF answerF
  rw [cons_term]
  rfl
set_option maxHeartbeats 2000000 in
set_option maxRecDepth 100000 in
theorem consents_any (H : Frz) (hM : MLen H) (w : World) (hH : H.In w) :
    Calls Tryz.prog 16 #[] w fun e w' => e = .returned (.bool true) ∧ Below w.heap.size w w' := by
  obtain ⟨H1, le1, hb1, hin1⟩ := (hH.alloc (.cells #[.int .i64 1, .string mailB] 32)).put (.cells #[.string euB, .int .i64 1, .bool true, .int .i64 0, .int .i64 0] 76)
  obtain ⟨H2, le2, hb2, hin2⟩ := hin1.put (.cells #[.string newsB, .slice (some ⟨w.heap.size + 1, 0, none⟩) 1 1] 74)
  have s1 : (w.alloc (.cells #[.int .i64 1, .string mailB] 32)).heap.size = w.heap.size + 1 := by simp
  have s2 : ((w.alloc (.cells #[.int .i64 1, .string mailB] 32)).alloc (.cells #[.string euB, .int .i64 1, .bool true, .int .i64 0, .int .i64 0] 76)).heap.size = w.heap.size + 2 := by simp
  rw [s1] at hb1
  rw [s2] at hb2
  have hP : PolIn H2 (some ⟨w.heap.size + 2, 0, none⟩) (consPs (some ⟨w.heap.size + 1, 0, none⟩)) := by
    refine ⟨Rw_blk hb2, fun p hp => ?_, fun p hp => ?_⟩
    · simp [consPs] at hp
      subst hp
      exact Rw_blk (le2 _ _ hb1)
    · simp [consPs] at hp
      subst hp
      refine ⟨show newsB.size ≤ 1000000 by decide, by simp, by simp, fun t ht => ?_⟩
      simp at ht
      subst ht
      decide
  have HC := Lib.hid (may_any H2 ((hM.le le1).le le2) (some ⟨w.heap.size + 2, 0, none⟩) 1 (consPs (some ⟨w.heap.size + 1, 0, none⟩)) none 0 [] 1 mailB newsB euB 1 0 _ hin2 hP (by simp [consPs]) Rw.nil (by simp) (fun s hs => by simp at hs) (by decide) (by decide))
  have HB : Hid (Below w.heap.size w _) := (new2 (w := w) (.cells #[.int .i64 1, .string mailB] 32) (.cells #[.string euB, .int .i64 1, .bool true, .int .i64 0, .int .i64 0] 76)).alloc (by simp; omega) (.cells #[.string newsB, .slice (some ⟨w.heap.size + 1, 0, none⟩) 1 1] 74)
  clear hM hH le1 hb1 hin1 le2 hb2 hin2 hP s1 s2
  rw [cons_err, cons_may] at HC
  go_enter Tryz.func16, Tryz.ntmps16
  go_wp2_with fail
  refine HC.out.mono ?_
  rintro e w1 ⟨rfl, hb⟩
  have HB1 := Lib.hid (HB.out.trans (hb.mono HB.out.size))
  clear hb HC HB
  rw [show ansV ⟨true, 1, 0⟩ = .agg #[.bool true, .int .i64 1, .int .i64 0] from rfl]
  have HB2 := Lib.hid (HB1.out.alloc HB1.out.size (.cells #[.bool true, .int .i64 1, .int .i64 0] 37))
  clear HB1
  go_wp2_with fail
  go_ret
  exact ⟨rfl, HB2.out⟩
end Go.Proofs.YtbhccicibmcafaaGreatDoor
