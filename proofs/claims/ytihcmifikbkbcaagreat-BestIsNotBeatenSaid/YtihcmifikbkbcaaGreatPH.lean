/- Texts of this claim, put together: OfAppP, OfApp, OfOrd. -/
import Derived.Test.YtihcmifikbkbcaaGreatPF
import Derived.Test.YtihcmifikbkbcaaGreatPG
import Derived.Test.YtihcmifikbkbcaaGreatPA
/- A pricer in use. -/
namespace Go.Proofs.YtihcmifikbkbcaaGreat
set_option linter.unusedVariables false
open Go.RowKit
/-- The first some places have less. -/
def subT : Nat → List Nat → List Nat → List Nat
  | i + 1, x :: l, y :: c => (x - y) :: subT i l c
  | _, l, _ => l
theorem subT_len : ∀ (i : Nat) (l c : List Nat), (subT i l c).length = l.length
  | 0, l, c => by cases l <;> cases c <;> rfl
  | i + 1, [], c => rfl
  | i + 1, x :: l, [] => rfl
  | i + 1, x :: l, y :: c => by simp [subT, subT_len i l c]
theorem subT_zero (l c : List Nat) : subT 0 l c = l := by cases l <;> cases c <;> rfl
theorem subT_at : ∀ (i : Nat) (l c : List Nat) (hi : i < l.length), (subT i l c)[i]'(by rw [subT_len]; exact hi) = l[i]
  | 0, x :: l, c, _ => by cases c <;> rfl
  | i + 1, x :: l, [], _ => rfl
  | i + 1, x :: l, y :: c, h => by simpa [subT] using subT_at i l c (by simpa using h)
  | _, [], _, h => by simp at h
theorem subT_succ : ∀ (i : Nat) (l c : List Nat) (hi : i < l.length) (hc : i < c.length), subT (i + 1) l c = (subT i l c).set i (l[i] - c[i])
  | 0, x :: l, y :: c, _, _ => by rw [subT_zero]; simp [subT]
  | i + 1, x :: l, y :: c, h, h' => by
    have := subT_succ i l c (by simpa using h) (by simpa using h')
    rw [subT, this]
    rfl
  | _, [], _, h, _ => by simp at h
  | _, _ :: _, [], _, h => by simp at h
theorem subT_all : ∀ (l c : List Nat), l.length = c.length → subT l.length l c = subL l c
  | [], [], _ => rfl
  | x :: l, y :: c, h => by
    have := subT_all l c (by simpa using h)
    rw [List.length_cons, subT, this]
    rfl
  | [], y :: c, h => by simp at h
  | x :: l, [], h => by simp at h
/-- An offer's numbers are right. -/
structure OfOk (d : OfD) : Prop where
  kind : d.kind = 1 ∨ d.kind = 2 ∨ d.kind = 3 ∨ d.kind = 4
  k1 : d.kind = 1 → 1 ≤ d.a ∧ d.a ≤ 100
  k2 : d.kind ≠ 1 → d.kind ≠ 3 → 1 ≤ d.a ∧ d.a ≤ 1000000000000
  k3 : d.kind = 3 → (1 ≤ d.a ∧ d.a ≤ 20) ∧ 1 ≤ d.b ∧ d.b ≤ 20
  most : 0 ≤ d.most ∧ d.most ≤ 1000000000000
/-- A pricer in use. -/
structure PrW (H : Frz) (g : Nat) (A : Option Addr) (cap : Nat) (xs : List ItD) (bship : Int) (vl : Value) (s : PrS) (w : World) : Prop where
  inn : H.In w
  blk : w.heap[g]? = some (.cells #[.slice A xs.length cap, .int .i64 bship, vl, .int .i64 (s.ship : Int)] 120 (0, 0))
  lrow : Orow w (g + 1) 3 1 fN vl s.left
  row : Rw H A 4 fIt xs
  its : ∀ x ∈ xs, ItIn H x
  len : xs.length = s.left.length
  small : s.left.length ≤ 19
  bd : ∀ z ∈ s.left, z ≤ 1000000000
  sh : s.ship ≤ 1000000000000
  no : ∀ b, g ≤ b → H b = none
/-- What stays beside a pricer's blocks. -/
structure PKeep (g : Nat) (vl : Value) (w w' : World) : Prop where
  os : w'.os = w.os
  tape : w'.tape = w.tape
  output : w'.output = w.output
  size : w.heap.size ≤ w'.heap.size
  block : ∀ b, b < w.heap.size → b ≠ g → vl.ownBlock ≠ some b → w'.heap[b]? = w.heap[b]?
theorem PKeep.of {g : Nat} {vl : Value} {w w' : World} (h : Below w.heap.size w w') : PKeep g vl w w' := ⟨h.os, h.tape, h.output, h.size, fun b hb _ _ => h.block b hb⟩
theorem PKeep.trans {g : Nat} {vl : Value} {w w' w'' : World} (h : PKeep g vl w w') (k : PKeep g vl w' w'') : PKeep g vl w w'' :=
  ⟨k.os.trans h.os, k.tape.trans h.tape, k.output.trans h.output, Nat.le_trans h.size k.size, fun b hb h1 h2 => (k.block b (Nat.lt_of_lt_of_le hb h.size) h1 h2).trans (h.block b hb h1 h2)⟩
theorem PKeep.set {g : Nat} {vl : Value} {w w' : World} (h : PKeep g vl w w') {a : Addr} (v : Value) (ha : a.block = g ∨ vl.ownBlock = some a.block) : PKeep g vl w (w'.setCell a v) :=
  ⟨h.os, h.tape, h.output, by have := h.size; simpa [World.setCell] using this, fun b hb h1 h2 => (Below.heap_setCell w' _ _ b (fun e => by rcases ha with ha | ha; exact h1 (e.trans ha); exact h2 (ha.trans (by rw [e])))).trans (h.block b hb h1 h2)⟩
section
variable {H : Frz} {g : Nat} {A : Option Addr} {cap : Nat} {xs : List ItD} {bship : Int} {vl : Value} {s : PrS} {w w' : World}
theorem PrW.below (h : PrW H g A cap xs bship vl s w) (hb : Below w.heap.size w w') : PrW H g A cap xs bship vl s w' :=
  ⟨h.inn.below hb, (hb.block _ (lt_of_heap h.blk)).trans h.blk, h.lrow.below hb, h.row, h.its, h.len, h.small, h.bd, h.sh, h.no⟩
theorem PrW.pf (h : PrW H g A cap xs bship vl s w) : ∃ (Al : Option Addr) (capl : Nat) (H' : Frz), vl = .slice Al s.left.length capl ∧ H.Le H' ∧ H'.In w ∧ PF H' g A cap xs bship Al capl s.left s.ship ∧ (∀ b, w.heap.size ≤ b → H' b = none) := by
  obtain ⟨Al, capl, H1, hv, hle, q1, q2, hR, q3⟩ := Orow.freezeN h.lrow H
  have hn : ∀ b, vl.ownBlock = some b → H b = none := fun b hb => h.no b (by have := (Orow.lt h.lrow hb).1; omega)
  have hg : H1 g = none := by rw [q3 g (fun e => by have := (Orow.lt h.lrow e).1; omega)]; exact h.no g (Nat.le_refl _)
  have hle2 := Frz.le_add (o := .cells #[.slice A xs.length cap, .int .i64 bship, vl, .int .i64 (s.ship : Int)] 120 (0, 0)) hg
  have hin := (q1 h.inn).add h.blk
  subst hv
  exact ⟨Al, capl, _, rfl, (q2 hn).trans hle2, hin, ⟨Frz.add_at _ _ _, h.row.le ((q2 hn).trans hle2), fun x hx => (h.its x hx).le ((q2 hn).trans hle2), hR.le hle2, h.len, h.small, h.bd⟩, fun b hb => hin.none_ hb⟩
theorem PrW.setl (h : PrW H g A cap xs bship vl s w) {i : Nat} (hi : i < s.left.length) (x : Nat) (hx : x ≤ 1000000000) :
    ∃ gl capl, vl = .slice (some ⟨gl, 0, none⟩) s.left.length capl ∧ g < gl ∧ w.cell? ⟨gl, i, none⟩ = some (.int .i64 (s.left[i] : Int)) ∧ w.frozen? ⟨gl, i, none⟩ = false ∧
      PrW H g A cap xs bship vl ⟨s.left.set i x, s.ship⟩ (w.setCell ⟨gl, i, none⟩ (.int .i64 (x : Int))) := by
  obtain ⟨gl, capl, rest, hv, hle, hB, hlt, hm, hk, hr⟩ := Orow.form h.lrow (fun e => by rw [e] at hi; simp at hi)
  refine ⟨gl, capl, hv, by omega, hk.cell1 i hi, hk.frozen i, ⟨h.inn.setCell (h.no gl (by omega)) _, (Below.heap_setCell w _ _ g (by show g ≠ gl; omega)).trans h.blk, ?_, h.row, h.its, by rw [h.len]; simp, by simpa using h.small, ?_, h.sh, h.no⟩⟩
  · rw [hv]
    have := Orow.of_blk (B := g + 1) (hk.set1 i hi x) (by omega) hm (by simpa using hle) (by simpa using hr)
    rw [List.length_set] at this
    exact this
  · intro z hz
    rcases List.mem_or_eq_of_mem_set hz with hz | hz
    · exact h.bd z hz
    · omega
theorem PrW.sets (h : PrW H g A cap xs bship vl s w) (x : Nat) (hx : x ≤ 1000000000000) :
    w.cell? ⟨g, 3, none⟩ = some (.int .i64 (s.ship : Int)) ∧ w.frozen? ⟨g, 3, none⟩ = false ∧ PrW H g A cap xs bship vl ⟨s.left, x⟩ (w.setCell ⟨g, 3, none⟩ (.int .i64 (x : Int))) := by
  refine ⟨cell_h h.blk 3 rfl, froz_h h.blk 3, ⟨h.inn.setCell (h.no g (Nat.le_refl _)) _, ?_, ?_, h.row, h.its, h.len, h.small, h.bd, hx, h.no⟩⟩
  · have hb := h.blk
    simp [World.setCell, Array.getElem?_modify, hb]
  · have hg : w.grownBy (w.setCell ⟨g, 3, none⟩ (.int .i64 (x : Int))) (some g) := ⟨rfl, rfl, rfl, by simp [World.setCell], fun k hk hne => Below.heap_setCell w _ _ k (fun e => hne (by rw [e]))⟩
    exact h.lrow.far hg (by omega)
end
end Go.Proofs.YtihcmifikbkbcaaGreat

/- What an offer takes. -/
namespace Go.Proofs.YtihcmifikbkbcaaGreat
set_option linter.unusedVariables false
open Go.RowKit
set_option maxHeartbeats 8000000 in
set_option maxRecDepth 100000 in
theorem apply_any (H : Frz) (g : Nat) (A : Option Addr) (cap : Nat) (xs : List ItD) (bship : Int) (vl : Value) (s : PrS) (d : OfD) (w : World) (hp : PrW H g A cap xs bship vl s w) (hd : OfIn H d) (hok : OfOk d) (hbd : ItBd xs) :
    Calls Tryz.prog 63 #[.pointer (some ⟨g, 0, none⟩), .agg #[.string d.key, .int .i64 d.kind, .int .i64 d.a, .int .i64 d.b, .slice d.ta d.tags.length d.tc, .int .i64 d.least, .int .i64 d.most, .string d.group, .bool d.alone, .int .i64 d.order, .int .i64 d.first, .int .i64 d.last]] w fun e w' => e = .returned (.int .i64 (applyT d xs s : Nat)) ∧ PrW H g A cap xs bship vl (applyS d xs s) w' ∧ PKeep g vl w w' := by
  have HB0 := Lib.hid (new1 (w := w) (.cells #[.string d.key, .int .i64 d.kind, .int .i64 d.a, .int .i64 d.b, .slice d.ta d.tags.length d.tc, .int .i64 d.least, .int .i64 d.most, .string d.group, .bool d.alone, .int .i64 d.order, .int .i64 d.first, .int .i64 d.last] 50))
  have HPR := Lib.hid (hp.below HB0.out)
  have HBK := Lib.hid (heap_alloc_new w (.cells #[.string d.key, .int .i64 d.kind, .int .i64 d.a, .int .i64 d.b, .slice d.ta d.tags.length d.tc, .int .i64 d.least, .int .i64 d.most, .string d.group, .bool d.alone, .int .i64 d.order, .int .i64 d.first, .int .i64 d.last] 50))
  have HD := Lib.hid hd
  have HIB := Lib.hid hbd
  have HOK := Lib.hid hok
  clear hp hd hbd hok
  go_enter Tryz.func63, Tryz.ntmps63
  go_upto_region 2 with (fail)
  generalize w.alloc (.cells #[.string d.key, .int .i64 d.kind, .int .i64 d.a, .int .i64 d.b, .slice d.ta d.tags.length d.tc, .int .i64 d.least, .int .i64 d.most, .string d.group, .bool d.alone, .int .i64 d.order, .int .i64 d.first, .int .i64 d.last] 50) = W1 at *
  have hk := HBK.out
  have y0 := cell_h hk 0 (v := .string d.key) rfl
  have y1 := cell_h hk 1 (v := .int .i64 d.kind) rfl
  have y2 := cell_h hk 2 (v := .int .i64 d.a) rfl
  have y3 := cell_h hk 3 (v := .int .i64 d.b) rfl
  have y4 := cell_h hk 4 (v := .slice d.ta d.tags.length d.tc) rfl
  have y5 := cell_h hk 5 (v := .int .i64 d.least) rfl
  have y6 := cell_h hk 6 (v := .int .i64 d.most) rfl
  have y7 := cell_h hk 7 (v := .string d.group) rfl
  have y8 := cell_h hk 8 (v := .bool d.alone) rfl
  have y9 := cell_h hk 9 (v := .int .i64 d.order) rfl
  have y10 := cell_h hk 10 (v := .int .i64 d.first) rfl
  have y11 := cell_h hk 11 (v := .int .i64 d.last) rfl
  clear hk
  obtain ⟨mn, hmn⟩ := Int.eq_ofNat_of_zero_le HOK.out.most.1
  have HMN : Hid (d.most.toNat = mn) := by show _ = _; omega
  have hmn2 : mn ≤ 1000000000000 := by have := HOK.out.most.2; omega
  by_cases hk4 : d.kind = 4
  · obtain ⟨an, han⟩ := Int.eq_ofNat_of_zero_le (show 0 ≤ d.a by have := HOK.out.k2 (by omega) (by omega); omega)
    have ha2 : an ≤ 1000000000000 := by have := HOK.out.k2 (by omega) (by omega); omega
    have HSF : Hid (shipF d s.ship = capF mn (min an s.ship)) := by show _ = _; unfold shipF; rw [HMN.out, han]; rfl
    have HAS : Hid (applyS d xs s = ⟨s.left, s.ship - shipF d s.ship⟩ ∧ applyT d xs s = shipF d s.ship) := by unfold applyS applyT; rw [if_pos hk4, if_pos hk4]; exact ⟨rfl, rfl⟩
    have hsh := HPR.out.sh
    have p3 : W1.cell? ⟨g, 3, none⟩ = some (.int .i64 (s.ship : Int)) := cell_h HPR.out.blk 3 rfl
    have hfz := (HPR.out.sets 0 (by omega)).2.1
    have q1 : (d.kind == 1) = false := by simp; omega
    have q2 : (d.kind == 2) = false := by simp; omega
    have q3 : (d.kind == 3) = false := by simp; omega
    rw [han] at y2
    rw [hmn] at y6
    have HST : Hid (∀ t : Nat, t = shipF d s.ship → t ≤ s.ship → PrW H g A cap xs bship vl (applyS d xs s) (W1.setCell ⟨g, 3, none⟩ (.int .i64 ((s.ship : Int) - (t : Int)))) ∧ PKeep g vl w (W1.setCell ⟨g, 3, none⟩ (.int .i64 ((s.ship : Int) - (t : Int)))) ∧ applyT d xs s = t) := by
      intro t ht htl
      have h1 := (HPR.out.sets (s.ship - t) (by omega)).2.2
      rw [show ((s.ship - t : Nat) : Int) = (s.ship : Int) - (t : Int) from by omega] at h1
      refine ⟨by rw [HAS.out.1, ← ht]; exact h1, (PKeep.of HB0.out).set _ (Or.inl rfl), by rw [HAS.out.2, ht]⟩
    have hmin : ∃ t0 : Nat, t0 = min an s.ship ∧ t0 ≤ an ∧ t0 ≤ s.ship := ⟨_, rfl, by omega, by omega⟩
    obtain ⟨t0, ht0, t01, t02⟩ := hmin
    rw [← ht0] at HSF
    have HM0 : Hid (min (an : Int) (s.ship : Int) = (t0 : Int)) := by show _ = _; omega
    clear ht0 hk4 han HAS hmn
    generalize s.ship = sh at *
    go_upto_region 3 with (fail)
    go_quiet (fail)
    have HYY : Hid ((W1.drewN nq).cell? ⟨w.heap.size, 6, none⟩ = some (.int .i64 (mn : Int)) ∧ (W1.drewN nq).cell? ⟨g, 3, none⟩ = some (.int .i64 (sh : Int)) ∧ (W1.drewN nq).frozen? ⟨g, 3, none⟩ = false) := ⟨y6, p3, hfz⟩
    have HST2 : Hid (∀ t : Nat, t = shipF d sh → t ≤ sh → PrW H g A cap xs bship vl (applyS d xs s) ((W1.drewN nq).setCell ⟨g, 3, none⟩ (.int .i64 ((sh : Int) - (t : Int)))) ∧ PKeep g vl w ((W1.drewN nq).setCell ⟨g, 3, none⟩ (.int .i64 ((sh : Int) - (t : Int)))) ∧ applyT d xs s = t) := by
      intro t h1 h2
      obtain ⟨k1, k2, k3⟩ := HST.out t h1 h2
      exact ⟨⟨k1.inn, k1.blk, k1.lrow, k1.row, k1.its, k1.len, k1.small, k1.bd, k1.sh, k1.no⟩, ⟨k2.os, k2.tape, k2.output, k2.size, k2.block⟩, k3⟩
    generalize World.drewN _ nq = W5 at HYY HST2 ⊢
    clear y0 y1 y2 y3 y4 y5 y6 y7 y8 y9 y10 y11 p3 hfz HST
    have HST := HST2
    obtain ⟨y6, p3, hfz⟩ := HYY.out
    clear HST2 HYY
    rw [HM0.out]
    by_cases hm : mn = 0
    · have k1 : ((mn : Int) != 0) = false := by simp; omega
      have hT := HST.out t0 (by rw [HSF.out]; unfold capF; rw [if_pos hm]) t02
      have HT := Lib.hid hT
      clear hm HM0 HST HSF hT
      go_wp2_with fail
      go_ret
      exact ⟨ret_int (by rw [HT.out.2.2]), HT.out.1, HT.out.2.1⟩
    · have k1 : ((mn : Int) != 0) = true := by simp; omega
      obtain ⟨t1, ht1, t11⟩ : ∃ t1 : Nat, t1 = min t0 mn ∧ t1 ≤ t0 := ⟨_, rfl, by omega⟩
      have HM1 : Hid (min (t0 : Int) (mn : Int) = (t1 : Int)) := by show _ = _; omega
      have hT := HST.out t1 (by rw [HSF.out, ht1]; unfold capF; rw [if_neg hm]) (by omega)
      have HT := Lib.hid hT
      clear hm HM0 HST HSF hT ht1
      go_upto_region 6 with (fail)
      rw [HM1.out]
      go_wp2_with fail
      go_ret
      exact ⟨ret_int (by rw [HT.out.2.2]), HT.out.1, HT.out.2.1⟩
  · have HCUT : Hid (∀ W, Orow W W1.heap.size 3 1 fN vl s.left → True) := fun _ _ => trivial
    obtain ⟨Al, capl, H', hvl, hle, hin', hpf, hno'⟩ := HPR.out.pf
    have HPF := Lib.hid hpf
    have HIN' := Lib.hid hin'
    have HD' := Lib.hid (HD.out.le hle)
    have HSZ1 := Lib.hid HB0.out.size
    clear hpf hin' hle hno' HCUT
    go_upto_block 0 with (fail)
    go_cut [5] (fun v wx => Hid (PrW H g A cap xs bship vl s wx ∧ Below w.heap.size w wx ∧ Orow wx W1.heap.size 3 1 fN v (cutsF d xs s.left)))
    case first =>
      rcases HOK.out.kind with hk | hk | hk | hk
      · have q1 : (d.kind == 1) = true := by simp; omega
        have HC : Hid (cutsF d xs s.left = perF d xs s.left) := by show _ = _; unfold cutsF; rw [if_pos hk]
        have HCA := Lib.hid (percents_any H' g A cap xs bship Al capl s.left s.ship d W1 HIN'.out HPF.out HD'.out (HOK.out.k1 hk) HOK.out.most)
        clear hk hk4 hmn
        go_wp2_with fail
        refine HCA.out.mono ?_
        rintro e W3 ⟨⟨v, rfl, hO⟩, hb⟩
        have HT : Hid (PrW H g A cap xs bship vl s W3 ∧ Below w.heap.size w W3 ∧ Orow W3 W1.heap.size 3 1 fN v (cutsF d xs s.left)) := ⟨HPR.out.below hb, HB0.out.trans (hb.mono HSZ1.out), by rw [HC.out]; exact hO⟩
        clear hO hb HCA HC
        go_wp2_with fail
        go_meet
        exact HT
      · have q1 : (d.kind == 1) = false := by simp; omega
        have q2 : (d.kind == 2) = true := by simp; omega
        have HC : Hid (cutsF d xs s.left = amtF d xs s.left) := by show _ = _; unfold cutsF; rw [if_neg (by omega), if_pos hk]
        have HCA := Lib.hid (amount_any H' g A cap xs bship Al capl s.left s.ship d W1 HIN'.out HPF.out HD'.out (HOK.out.k2 (by omega) (by omega)) HOK.out.most)
        clear hk hk4 hmn
        go_wp2_with fail
        refine HCA.out.mono ?_
        rintro e W3 ⟨⟨v, rfl, hO⟩, hb⟩
        have HT : Hid (PrW H g A cap xs bship vl s W3 ∧ Below w.heap.size w W3 ∧ Orow W3 W1.heap.size 3 1 fN v (cutsF d xs s.left)) := ⟨HPR.out.below hb, HB0.out.trans (hb.mono HSZ1.out), by rw [HC.out]; exact hO⟩
        clear hO hb HCA HC
        go_wp2_with fail
        go_meet
        exact HT
      · have q1 : (d.kind == 1) = false := by simp; omega
        have q2 : (d.kind == 2) = false := by simp; omega
        have q3 : (d.kind == 3) = true := by simp; omega
        have HC : Hid (cutsF d xs s.left = freeF d xs s.left) := by show _ = _; unfold cutsF; rw [if_neg (by omega), if_neg (by omega)]
        have HCA := Lib.hid (free_any H' g A cap xs bship Al capl s.left s.ship d W1 HIN'.out HPF.out HD'.out HIB.out (HOK.out.k3 hk).1 (HOK.out.k3 hk).2 HOK.out.most)
        clear hk hk4 hmn
        go_wp2_with fail
        refine HCA.out.mono ?_
        rintro e W3 ⟨⟨v, rfl, hO⟩, hb⟩
        have HT : Hid (PrW H g A cap xs bship vl s W3 ∧ Below w.heap.size w W3 ∧ Orow W3 W1.heap.size 3 1 fN v (cutsF d xs s.left)) := ⟨HPR.out.below hb, HB0.out.trans (hb.mono HSZ1.out), by rw [HC.out]; exact hO⟩
        clear hO hb HCA HC
        go_wp2_with fail
        go_meet
        exact HT
      · exact absurd hk hk4
    case rest =>
      have HLE := cutsF_le (o := d) (xs := xs) (ns := s.left) HPR.out.len (fun h => (HOK.out.k1 h).2)
      have HAS : Hid (applyS d xs s = ⟨subL s.left (cutsF d xs s.left), s.ship⟩ ∧ applyT d xs s = (cutsF d xs s.left).sum) := by unfold applyS applyT; rw [if_neg hk4, if_neg hk4]; exact ⟨rfl, rfl⟩
      obtain ⟨hp3, hb3, hO3⟩ := hcut.out
      have hcl := HLE.len
      obtain ⟨Ac, capc, Hc, hvc, hlec, q1, q2, hRc, q3⟩ := Orow.freezeN hO3 Frz.empty
      have hgl : ∀ b, b < W1.heap.size → Hc b = none := fun b hb => by rw [q3 b (fun e => by have := (Orow.lt hO3 e).1; omega)]; rfl
      have HGL := Lib.hid hgl
      have HRC := Lib.hid hRc
      have J0 : Hid (PrW H g A cap xs bship vl ⟨subT 0 s.left (cutsF d xs s.left), s.ship⟩ wc ∧ Hc.In wc ∧ PKeep g vl w wc) := ⟨by rw [subT_zero]; exact hp3, q1 (Frz.In.empty _), ⟨hb3.os, hb3.tape, hb3.output, hb3.size, fun b hb _ _ => hb3.block b hb⟩⟩
      have hcs := HLE.sum
      have hls : s.left.sum ≤ 19000000000 := by
        have h1 := Hb.sum_le HPR.out.bd
        have h2 : s.left.length * 1000000000 ≤ 19 * 1000000000 := Nat.mul_le_mul_right _ HPR.out.small
        omega
      have HLE := Lib.hid HLE
      have hsml := HPR.out.small
      have HG1 : Hid (∀ gl, vl.ownBlock = some gl → gl < W1.heap.size) := fun gl h => (Orow.lt HPR.out.lrow h).2
      have HBD1 := Lib.hid HPR.out.bd
      clear hp3 hb3 hO3 q1 q2 hRc q3 hgl hcut hk4 hmn y1 HPF HIN' HD' HSZ1 hvl hlec HPR
      subst hvc
      generalize cutsF d xs s.left = cs at *
      go_wp2_with fail
      go_loopw [7, 52] (fun sm t wr => ∃ i : Nat, i ≤ cs.length ∧ t = .int .i64 i ∧ sm = .int .i64 ((cs.take i).sum : Nat) ∧ Hid (PrW H g A cap xs bship vl ⟨subT i s.left cs, s.ship⟩ wr ∧ Hc.In wr ∧ PKeep g vl w wr)) (fun _ t _ => cs.length - (intOf t).toNat)
      case atStart => exact ⟨0, by omega, rfl, by simp, J0⟩
      case round =>
        obtain ⟨i, hi, rfl, rfl, J⟩ := hrel
        clear J0
        by_cases hlt : i < cs.length
        · have hil : i < s.left.length := by omega
          obtain ⟨bc, offc, hAc, _, hcc⟩ := HRC.out.at_ J.out.2.1 hlt (by omega)
          have c0 : wr.cell? ⟨bc, offc + i, none⟩ = some (.int .i64 (cs[i] : Nat)) := by simpa [fN] using hcc 0 (by omega)
          have hle := HLE.out.at_ i hlt hil
          have hbd := HBD1.out _ (List.getElem_mem hil)
          obtain ⟨gl, capl2, hv2, hgl2, l0, hfz, hset⟩ := J.out.1.setl (i := i) (by rw [subT_len]; exact hil) (s.left[i] - cs[i]) (by omega)
          have hsub := subT_succ i s.left cs hil hlt
          have hat := subT_at i s.left cs hil
          rw [← hsub] at hset
          simp only at l0 hv2
          rw [hat] at l0
          rw [subT_len] at hv2
          have p2 : wr.cell? ⟨g, 2, none⟩ = some (.slice (some ⟨gl, 0, none⟩) s.left.length capl2) := by rw [← hv2]; exact cell_h J.out.1.blk 2 rfl
          have hs := Hb.sum_take_succ hlt
          have hs2 := Hb.sum_take_le cs (i + 1)
          have HS : Hid (((cs.take (i + 1)).sum : Int) = ((cs.take i).sum : Int) + (cs[i] : Int)) := by show _ = _; omega
          have hgl3 : gl < W1.heap.size := HG1.out gl (by rw [hv2]; rfl)
          have J2 : Hid (PrW H g A cap xs bship vl ⟨subT (i + 1) s.left cs, s.ship⟩ (wr.setCell ⟨gl, i, none⟩ (.int .i64 ((s.left[i] : Int) - (cs[i] : Int)))) ∧ Hc.In (wr.setCell ⟨gl, i, none⟩ (.int .i64 ((s.left[i] : Int) - (cs[i] : Int)))) ∧ PKeep g vl w (wr.setCell ⟨gl, i, none⟩ (.int .i64 ((s.left[i] : Int) - (cs[i] : Int))))) := by
            rw [show ((s.left[i] - cs[i] : Nat) : Int) = (s.left[i] : Int) - (cs[i] : Int) from by omega] at hset
            exact ⟨hset, J.out.2.1.setCell (HGL.out gl hgl3) _, J.out.2.2.set _ (Or.inr (by rw [hv2]; rfl))⟩
          have hlt2 : (i : Int) < cs.length := by omega
          have hil2 : (i : Int) < s.left.length := by omega
          subst hAc
          clear hcc hset hsub hat hv2 J HLE
          generalize cs[i] = c at *
          generalize s.left[i] = z at *
          generalize (cs.take i).sum = s0 at *
          go_wp2_with fail
          go_roundw
          case rel => exact ⟨i + 1, by omega, by go_num, by rw [HS.out], J2⟩
          case measure => simp [intOf]; omega
        · have hie : i = cs.length := by omega
          subst hie
          have hF : Hid (PrW H g A cap xs bship vl (applyS d xs s) wr ∧ PKeep g vl w wr ∧ applyT d xs s = cs.sum) := by
            obtain ⟨h1, h2, h3⟩ := J.out
            rw [hcl, subT_all _ _ hcl.symm] at h1
            exact ⟨by rw [HAS.out.1]; exact h1, h3, HAS.out.2⟩
          rw [List.take_length]
          clear J
          go_wp2_with fail
          go_ret
          exact ⟨ret_int (by rw [hF.out.2.2]), hF.out.1, hF.out.2.1⟩
end Go.Proofs.YtihcmifikbkbcaaGreat

/- Offers in order. -/
namespace Go.Proofs.YtihcmifikbkbcaaGreat
set_option linter.unusedVariables false
open Go.RowKit
def cmpO (x y : OfD) : Int := orL [cmpI x.order y.order, cmpS x.key y.key]
/-- Offers in the order in which they are applied. -/
def ordO (l : List OfD) : List OfD := isort (fun a b => decide (cmpO a b < 0)) l
theorem ordO_perm (l : List OfD) : (ordO l).Perm l := isort_perm _ _
def φOr (S : Nat) (p : Nat) (dx dy : OfD) (i : Nat) (v : Value) (w : World) : Prop :=
  match i with
  | 0 => v = .pointer (some ⟨p, 9, none⟩)
  | 1 => v = .int .i64 dx.order
  | 2 => v = .pointer (some ⟨p + 1, 9, none⟩)
  | 3 => v = .int .i64 dy.order
  | 4 => v = .int .i64 (cmpI dx.order dy.order)
  | 5 => v = .pointer (some ⟨p, 0, none⟩)
  | 6 => v = .string dx.key
  | 7 => v = .pointer (some ⟨p + 1, 0, none⟩)
  | 8 => v = .string dy.key
  | 9 => v = .int .i64 (cmpS dx.key dy.key)
  | 10 => ∃ b, v = .slice (some ⟨b, 0, none⟩) 2 2 ∧ S ≤ b ∧ w.heap[b]? = some (.cells #[.int .i64 (cmpI dx.order dy.order), .int .i64 (cmpS dx.key dy.key)] 3 (0, 0))
  | 11 => v = .int .i64 (cmpO dx dy)
  | _ => True
theorem φOr_mono {W0 : World} {p : Nat} {dx dy : OfD} (i : Nat) (x : Value) (w w' : World) (e : RowsE W0 w w') (h : φOr W0.heap.size p dx dy i x w) : φOr W0.heap.size p dx dy i x w' := by
  match i, h with
  | 0, h => exact h
  | 1, h => exact h
  | 2, h => exact h
  | 3, h => exact h
  | 4, h => exact h
  | 5, h => exact h
  | 6, h => exact h
  | 7, h => exact h
  | 8, h => exact h
  | 9, h => exact h
  | 10, h => obtain ⟨b, h1, h2, h3⟩ := h; exact ⟨b, h1, h2, (e.2 b h2 (lt_of_heap h3)).trans h3⟩
  | 11, h => exact h
  | i + 12, h => exact trivial
set_option maxHeartbeats 4000000 in
set_option maxRecDepth 100000 in
theorem ordered1_any (x y : OfD) (w : World) :
    Calls Tryz.prog 89 #[.agg #[.string x.key, .int .i64 x.kind, .int .i64 x.a, .int .i64 x.b, .slice x.ta x.tags.length x.tc, .int .i64 x.least, .int .i64 x.most, .string x.group, .bool x.alone, .int .i64 x.order, .int .i64 x.first, .int .i64 x.last], .agg #[.string y.key, .int .i64 y.kind, .int .i64 y.a, .int .i64 y.b, .slice y.ta y.tags.length y.tc, .int .i64 y.least, .int .i64 y.most, .string y.group, .bool y.alone, .int .i64 y.order, .int .i64 y.first, .int .i64 y.last]] w fun e w' => e = .returned (.int .i64 (cmpO x y)) ∧ Below w.heap.size w w' := by
  have HB := Lib.hid (new2 (w := w) (.cells #[.string x.key, .int .i64 x.kind, .int .i64 x.a, .int .i64 x.b, .slice x.ta x.tags.length x.tc, .int .i64 x.least, .int .i64 x.most, .string x.group, .bool x.alone, .int .i64 x.order, .int .i64 x.first, .int .i64 x.last] 50) (.cells #[.string y.key, .int .i64 y.kind, .int .i64 y.a, .int .i64 y.b, .slice y.ta y.tags.length y.tc, .int .i64 y.least, .int .i64 y.most, .string y.group, .bool y.alone, .int .i64 y.order, .int .i64 y.first, .int .i64 y.last] 50))
  have hx : ((w.alloc (.cells #[.string x.key, .int .i64 x.kind, .int .i64 x.a, .int .i64 x.b, .slice x.ta x.tags.length x.tc, .int .i64 x.least, .int .i64 x.most, .string x.group, .bool x.alone, .int .i64 x.order, .int .i64 x.first, .int .i64 x.last] 50)).alloc (.cells #[.string y.key, .int .i64 y.kind, .int .i64 y.a, .int .i64 y.b, .slice y.ta y.tags.length y.tc, .int .i64 y.least, .int .i64 y.most, .string y.group, .bool y.alone, .int .i64 y.order, .int .i64 y.first, .int .i64 y.last] 50)).heap[w.heap.size]? = some (.cells #[.string x.key, .int .i64 x.kind, .int .i64 x.a, .int .i64 x.b, .slice x.ta x.tags.length x.tc, .int .i64 x.least, .int .i64 x.most, .string x.group, .bool x.alone, .int .i64 x.order, .int .i64 x.first, .int .i64 x.last] 50 (0, 0)) := (heap_lt (by simp)).trans (heap_alloc_new _ _)
  have hy : ((w.alloc (.cells #[.string x.key, .int .i64 x.kind, .int .i64 x.a, .int .i64 x.b, .slice x.ta x.tags.length x.tc, .int .i64 x.least, .int .i64 x.most, .string x.group, .bool x.alone, .int .i64 x.order, .int .i64 x.first, .int .i64 x.last] 50)).alloc (.cells #[.string y.key, .int .i64 y.kind, .int .i64 y.a, .int .i64 y.b, .slice y.ta y.tags.length y.tc, .int .i64 y.least, .int .i64 y.most, .string y.group, .bool y.alone, .int .i64 y.order, .int .i64 y.first, .int .i64 y.last] 50)).heap[w.heap.size + 1]? = some (.cells #[.string y.key, .int .i64 y.kind, .int .i64 y.a, .int .i64 y.b, .slice y.ta y.tags.length y.tc, .int .i64 y.least, .int .i64 y.most, .string y.group, .bool y.alone, .int .i64 y.order, .int .i64 y.first, .int .i64 y.last] 50 (0, 0)) := by
    have := heap_alloc_new (w.alloc (.cells #[.string x.key, .int .i64 x.kind, .int .i64 x.a, .int .i64 x.b, .slice x.ta x.tags.length x.tc, .int .i64 x.least, .int .i64 x.most, .string x.group, .bool x.alone, .int .i64 x.order, .int .i64 x.first, .int .i64 x.last] 50)) (.cells #[.string y.key, .int .i64 y.kind, .int .i64 y.a, .int .i64 y.b, .slice y.ta y.tags.length y.tc, .int .i64 y.least, .int .i64 y.most, .string y.group, .bool y.alone, .int .i64 y.order, .int .i64 y.first, .int .i64 y.last] 50)
    simpa using this
  have HX := Lib.hid hx
  have HY := Lib.hid hy
  clear hx hy
  go_enter Tryz.func89, Tryz.ntmps89
  go_upto_region 1 with (fail)
  generalize (w.alloc (.cells #[.string x.key, .int .i64 x.kind, .int .i64 x.a, .int .i64 x.b, .slice x.ta x.tags.length x.tc, .int .i64 x.least, .int .i64 x.most, .string x.group, .bool x.alone, .int .i64 x.order, .int .i64 x.first, .int .i64 x.last] 50)).alloc (.cells #[.string y.key, .int .i64 y.kind, .int .i64 y.a, .int .i64 y.b, .slice y.ta y.tags.length y.tc, .int .i64 y.least, .int .i64 y.most, .string y.group, .bool y.alone, .int .i64 y.order, .int .i64 y.first, .int .i64 y.last] 50) = W0 at *
  have HROWS : Hid (∀ t ∈ ([] : List RowT), W0.ownsRow t.B t.T t.k t.v t.n t.xs) := by intro t ht; cases ht
  have HAPT : Hid (([] : List RowT).Pairwise fun t u => apart t.v u.v) := List.Pairwise.nil
  have HJI : Hid (∀ W L a, RowsJ W0 [] L a W → W.cell? ⟨w.heap.size, 9, none⟩ = some (.int .i64 x.order) ∧ W.cell? ⟨w.heap.size + 1, 9, none⟩ = some (.int .i64 y.order) ∧ W.cell? ⟨w.heap.size, 0, none⟩ = some (.string x.key) ∧ W.cell? ⟨w.heap.size + 1, 0, none⟩ = some (.string y.key)) := fun W L a h => by
    have h1 := (h.keep _ (lt_of_heap HX.out) (fun t ht => by cases ht)).trans HX.out
    have h2 := (h.keep _ (lt_of_heap HY.out) (fun t ht => by cases ht)).trans HY.out
    exact ⟨cell_h h1 9 rfl, cell_h h2 9 rfl, cell_h h1 0 rfl, cell_h h2 0 rfl⟩
  refine wp_region_concV 12 17 (φOr W0.heap.size w.heap.size x y) (RowsJ W0 ([])) (RowsE W0) (by kernel_rfl) (by kernel_rfl) (by rfl) (RowsJ.start HROWS.out HAPT.out _ _) (fun i x w w' _ e h => φOr_mono i x w w' e h) (fun i x w hi e _ => absurd e (by have hcs : i = 0 ∨ i = 1 ∨ i = 2 ∨ i = 3 ∨ i = 4 ∨ i = 5 ∨ i = 6 ∨ i = 7 ∨ i = 8 ∨ i = 9 ∨ i = 10 ∨ i = 11 := (by omega); rcases hcs with rfl | rfl | rfl | rfl | rfl | rfl | rfl | rfl | rfl | rfl | rfl | rfl <;> decide)) ?_ ?_
  · intro n o hn ho a W2 L hr hsN hLs hJ hkn
    replace hsN : a.tmps.size = 17 := hsN
    have hcs : n = 0 ∨ n = 1 ∨ n = 2 ∨ n = 3 ∨ n = 4 ∨ n = 5 ∨ n = 6 ∨ n = 7 ∨ n = 8 ∨ n = 9 ∨ n = 10 ∨ n = 11 := by omega
    rcases hcs with rfl | rfl | rfl | rfl | rfl | rfl | rfl | rfl | rfl | rfl | rfl | rfl
    · obtain rfl := Option.some.inj ho
      refine OpV.mono (R := fun v w' => φOr W0.heap.size w.heap.size x y 0 v w' ∧ Below W2.heap.size W2 w') ?_ (fun v w' h => ⟨h.1, hJ.step h.2 (by intro t ht; cases ht) v, RowsE.of h.2⟩)
      have h0 := slotv (hkn 2 (by decide) : a.tmps.getD 2 undef = .pointer (some ⟨w.heap.size, 0, none⟩))
      clear hkn ho
      simp only [OpV, execOp]
      simp [go_sem, h0]
      first | exact ⟨rfl, Below.refl _ _⟩ | exact Below.refl _ _
    · obtain rfl := Option.some.inj ho
      refine OpV.mono (R := fun v w' => φOr W0.heap.size w.heap.size x y 1 v w' ∧ Below W2.heap.size W2 w') ?_ (fun v w' h => ⟨h.1, hJ.step h.2 (by intro t ht; cases ht) v, RowsE.of h.2⟩)
      have h0 := slotv (hkn 5 (by decide) : a.tmps.getD 5 undef = .pointer (some ⟨w.heap.size, 9, none⟩))
      have hcc := (HJI.out W2 _ _ hJ).1
      clear hkn ho
      simp only [OpV, execOp]
      simp [go_sem, h0, hcc]
      first | exact ⟨rfl, Below.refl _ _⟩ | exact Below.refl _ _
    · obtain rfl := Option.some.inj ho
      refine OpV.mono (R := fun v w' => φOr W0.heap.size w.heap.size x y 2 v w' ∧ Below W2.heap.size W2 w') ?_ (fun v w' h => ⟨h.1, hJ.step h.2 (by intro t ht; cases ht) v, RowsE.of h.2⟩)
      have h0 := slotv (hkn 3 (by decide) : a.tmps.getD 3 undef = .pointer (some ⟨w.heap.size + 1, 0, none⟩))
      clear hkn ho
      simp only [OpV, execOp]
      simp [go_sem, h0]
      first | exact ⟨rfl, Below.refl _ _⟩ | exact Below.refl _ _
    · obtain rfl := Option.some.inj ho
      refine OpV.mono (R := fun v w' => φOr W0.heap.size w.heap.size x y 3 v w' ∧ Below W2.heap.size W2 w') ?_ (fun v w' h => ⟨h.1, hJ.step h.2 (by intro t ht; cases ht) v, RowsE.of h.2⟩)
      have h0 := slotv (hkn 7 (by decide) : a.tmps.getD 7 undef = .pointer (some ⟨w.heap.size + 1, 9, none⟩))
      have hcc := (HJI.out W2 _ _ hJ).2.1
      clear hkn ho
      simp only [OpV, execOp]
      simp [go_sem, h0, hcc]
      first | exact ⟨rfl, Below.refl _ _⟩ | exact Below.refl _ _
    · obtain rfl := Option.some.inj ho
      refine OpV.mono (R := fun v w' => φOr W0.heap.size w.heap.size x y 4 v w' ∧ Below W2.heap.size W2 w') ?_ (fun v w' h => ⟨h.1, hJ.step h.2 (by intro t ht; cases ht) v, RowsE.of h.2⟩)
      have h0 := slotv (hkn 6 (by decide) : a.tmps.getD 6 undef = .int .i64 x.order)
      have h1 := slotv (hkn 8 (by decide) : a.tmps.getD 8 undef = .int .i64 y.order)
      have hcc := cmpInt_b x.order y.order W2
      clear hkn ho
      simp only [OpV, execOp]
      simp [go_sem, h0, h1]
      refine hcc.mono ?_
      rintro e w' ⟨rfl, hb⟩
      exact ⟨_, rfl, rfl, hb⟩
    · obtain rfl := Option.some.inj ho
      refine OpV.mono (R := fun v w' => φOr W0.heap.size w.heap.size x y 5 v w' ∧ Below W2.heap.size W2 w') ?_ (fun v w' h => ⟨h.1, hJ.step h.2 (by intro t ht; cases ht) v, RowsE.of h.2⟩)
      have h0 := slotv (hkn 2 (by decide) : a.tmps.getD 2 undef = .pointer (some ⟨w.heap.size, 0, none⟩))
      clear hkn ho
      simp only [OpV, execOp]
      simp [go_sem, h0]
      first | exact ⟨rfl, Below.refl _ _⟩ | exact Below.refl _ _
    · obtain rfl := Option.some.inj ho
      refine OpV.mono (R := fun v w' => φOr W0.heap.size w.heap.size x y 6 v w' ∧ Below W2.heap.size W2 w') ?_ (fun v w' h => ⟨h.1, hJ.step h.2 (by intro t ht; cases ht) v, RowsE.of h.2⟩)
      have h0 := slotv (hkn 10 (by decide) : a.tmps.getD 10 undef = .pointer (some ⟨w.heap.size, 0, none⟩))
      have hcc := (HJI.out W2 _ _ hJ).2.2.1
      clear hkn ho
      simp only [OpV, execOp]
      simp [go_sem, h0, hcc]
      first | exact ⟨rfl, Below.refl _ _⟩ | exact Below.refl _ _
    · obtain rfl := Option.some.inj ho
      refine OpV.mono (R := fun v w' => φOr W0.heap.size w.heap.size x y 7 v w' ∧ Below W2.heap.size W2 w') ?_ (fun v w' h => ⟨h.1, hJ.step h.2 (by intro t ht; cases ht) v, RowsE.of h.2⟩)
      have h0 := slotv (hkn 3 (by decide) : a.tmps.getD 3 undef = .pointer (some ⟨w.heap.size + 1, 0, none⟩))
      clear hkn ho
      simp only [OpV, execOp]
      simp [go_sem, h0]
      first | exact ⟨rfl, Below.refl _ _⟩ | exact Below.refl _ _
    · obtain rfl := Option.some.inj ho
      refine OpV.mono (R := fun v w' => φOr W0.heap.size w.heap.size x y 8 v w' ∧ Below W2.heap.size W2 w') ?_ (fun v w' h => ⟨h.1, hJ.step h.2 (by intro t ht; cases ht) v, RowsE.of h.2⟩)
      have h0 := slotv (hkn 12 (by decide) : a.tmps.getD 12 undef = .pointer (some ⟨w.heap.size + 1, 0, none⟩))
      have hcc := (HJI.out W2 _ _ hJ).2.2.2
      clear hkn ho
      simp only [OpV, execOp]
      simp [go_sem, h0, hcc]
      first | exact ⟨rfl, Below.refl _ _⟩ | exact Below.refl _ _
    · obtain rfl := Option.some.inj ho
      refine OpV.mono (R := fun v w' => φOr W0.heap.size w.heap.size x y 9 v w' ∧ Below W2.heap.size W2 w') ?_ (fun v w' h => ⟨h.1, hJ.step h.2 (by intro t ht; cases ht) v, RowsE.of h.2⟩)
      have h0 := slotv (hkn 11 (by decide) : a.tmps.getD 11 undef = .string x.key)
      have h1 := slotv (hkn 13 (by decide) : a.tmps.getD 13 undef = .string y.key)
      have hcc := cmpStr_b x.key y.key W2
      clear hkn ho
      simp only [OpV, execOp]
      simp [go_sem, h0, h1]
      refine hcc.mono ?_
      rintro e w' ⟨rfl, hb⟩
      exact ⟨_, rfl, rfl, hb⟩
    · obtain rfl := Option.some.inj ho
      refine OpV.mono (R := fun v w' => φOr W0.heap.size w.heap.size x y 10 v w' ∧ Below W2.heap.size W2 w') ?_ (fun v w' h => ⟨h.1, hJ.step h.2 (by intro t ht; cases ht) v, RowsE.of h.2⟩)
      have h0 := slotv (hkn 9 (by decide) : a.tmps.getD 9 undef = .int .i64 (cmpI x.order y.order))
      have h1 := slotv (hkn 14 (by decide) : a.tmps.getD 14 undef = .int .i64 (cmpS x.key y.key))
      clear hkn ho
      simp only [OpV, execOp]
      simp [go_sem, h0, h1]
      exact ⟨⟨W2.heap.size, rfl, hJ.size, heap_alloc_new _ _⟩, new1 _⟩
    · obtain rfl := Option.some.inj ho
      refine OpV.mono (R := fun v w' => φOr W0.heap.size w.heap.size x y 11 v w' ∧ Below W2.heap.size W2 w') ?_ (fun v w' h => ⟨h.1, hJ.step h.2 (by intro t ht; cases ht) v, RowsE.of h.2⟩)
      obtain ⟨b, h0, hb0, hh⟩ : ∃ b, a.tmps.getD 15 undef = .slice (some ⟨b, 0, none⟩) 2 2 ∧ W0.heap.size ≤ b ∧ W2.heap[b]? = some (.cells #[.int .i64 (cmpI x.order y.order), .int .i64 (cmpS x.key y.key)] 3 (0, 0)) := hkn 15 (by decide)
      replace h0 := slotv h0
      have hcc := orL_any (some ⟨b, 0, none⟩) 2 [cmpI x.order y.order, cmpS x.key y.key] W2 (Ints.of_row hh rfl) (by simp)
      clear hkn ho
      simp only [OpV, execOp]
      simp [go_sem, h0]
      refine hcc.mono ?_
      rintro e w' ⟨rfl, rfl⟩
      exact ⟨_, rfl, rfl, Below.refl _ _⟩
  · intro yv W9 L9 hL9 hW9 hgt hφ
    have hφ11 : yv 11 = .int .i64 (cmpO x y) := by
      rcases hφ 11 (by decide) with h | h
      · exact h
      · exact absurd h.1 (by decide)
    have HB9 := Lib.hid (HB.out.trans ((hW9.below (Nat.le_refl _) (fun t ht => by cases ht)).mono HB.out.size))
    clear hW9 hgt hφ hL9 HROWS HAPT HJI
    simp only [List.drop_succ_cons, List.drop_zero, List.take_succ_cons, List.take_zero, putAll, Nat.reduceAdd, hφ11]
    clear hφ11
    go_wp2_with fail
    go_ret
    exact ⟨rfl, HB9.out⟩
set_option maxHeartbeats 1000000 in
theorem insort_nil_Of (fv : Value) (w : World) : Calls Tryz.prog 117 #[.slice none 0 0, .int .i64 0, .int .i64 0, fv] w fun e w' => e = .returned (.tuple #[]) ∧ w = w' := by
  go_enter Tryz.func117, Tryz.ntmps117
  go_wp2_with fail
  refine wp_loop_rounds 1 ?_
  rw [rounds_succ]
  go_wp2_with fail
  go_end0
  exact ⟨rfl, rfl⟩
set_option maxHeartbeats 1000000 in
theorem pdq_nil_Of (fv : Value) (lim : Int) (w : World) : Calls Tryz.prog 108 #[.slice none 0 0, .int .i64 0, .int .i64 0, .int .i64 lim, fv] w fun e w' => e = .returned (.tuple #[]) ∧ w = w' := by
  go_enter Tryz.func108, Tryz.ntmps108
  go_wp2_with fail
  refine wp_loop_rounds 1 ?_
  rw [rounds_succ]
  go_wp2_with fail
  refine (insort_nil_Of _ _).mono ?_
  rintro e w1 ⟨rfl, rfl⟩
  go_wp2_with fail
  (try simp only [Exit.inBlock, Exit.then])
  refine bodyPost_ret (results_none rfl _ _ _) rfl ?_
  exact ⟨rfl, rfl⟩
set_option maxHeartbeats 1000000 in
theorem sort_nil_Of (fv : Value) (w : World) : Calls Tryz.prog 88 #[.slice none 0 0, fv] w fun e w' => e = .returned (.tuple #[]) ∧ w = w' := by
  have HL := Lib.hid (fun W => Tryz.bits_Len 0 W (by omega) (by omega))
  go_enter Tryz.func88, Tryz.ntmps88
  go_wp2_with fail
  refine (HL.out _).mono ?_
  rintro e w1 ⟨rfl, hw1⟩
  obtain rfl := hw1.symm
  go_wp2_with fail
  refine (pdq_nil_Of _ _ _).mono ?_
  rintro e w1 ⟨rfl, rfl⟩
  go_wp2_with fail
  go_end0
  exact ⟨rfl, rfl⟩
theorem fOf_one (d : OfD) (m : Nat) : (fOf d m).oneCell' = true := by
  match m with
  | 0 => rfl
  | 1 => rfl
  | 2 => rfl
  | 3 => rfl
  | 4 => rfl
  | 5 => rfl
  | 6 => rfl
  | 7 => rfl
  | 8 => rfl
  | 9 => rfl
  | 10 => rfl
  | m + 11 => rfl
set_option maxHeartbeats 1000000 in
theorem ordered_any (H : Frz) (A : Option Addr) (cap : Nat) (ds : List OfD) (w : World) (hH : H.In w) (hR : Rw H A 12 fOf ds) (hl : ds.length ≤ 12) :
    Calls Tryz.prog 62 #[.slice A ds.length cap] w fun e w' => (∃ v, e = .returned v ∧ Orow w' w.heap.size 50 12 fOf v (ordO ds)) ∧ Below w.heap.size w w' := by
  have HC := Lib.hid (clone_Of H fOf ds (fun d _ m => fOf_one d m) A cap w hH hR (by omega))
  have HH := Lib.hid hH
  clear hH hR
  go_enter Tryz.func62, Tryz.ntmps62
  go_wp2_with fail
  refine HC.out.mono ?_
  rintro e W2 ⟨⟨v, rfl, hO⟩, hb⟩
  have hs : Calls Tryz.prog 88 #[v, .func (.func 89) #[] #[]] W2 fun e w' => e = .returned (.tuple #[]) ∧ Orow w' w.heap.size 50 12 fOf v (ordO ds) ∧ W2.grownBy w' v.ownBlock := by
    by_cases hne : v = .slice none 0 0
    · subst hne
      have h0 : ds = [] := by
        rcases hO.2 with ⟨_, h⟩ | ⟨g, cap, cur, hv, _⟩
        · exact List.eq_nil_of_length_eq_zero h
        · cases hv
      subst h0
      refine (sort_nil_Of _ _).mono ?_
      rintro e w' ⟨rfl, rfl⟩
      exact ⟨rfl, hO, World.grownBy.refl _ _⟩
    · have hl2 : ∀ g, v.ownBlock = some g → w.heap.size ≤ g := fun g hg => (Orow.lt hO hg).1
      refine (sortFunc_Of H fOf 89 [] cmpO ds (fun d _ m => fOf_one d m) (fun W a b _ _ _ => ordered1_any a b W) (fun _ _ _ => by kernel_rfl) v w.heap.size W2 hl (HH.out.below hb) (fun g hg => HH.out.none_ (hl2 g hg)) hO hne).mono ?_
      rintro e w' ⟨rfl, h1, h2, -⟩
      exact ⟨rfl, h1, h2⟩
  have HS := Lib.hid hs
  have HB := Lib.hid hb
  have HO := Lib.hid hO
  clear hs hb hO HC
  go_wp2_with fail
  refine HS.out.mono ?_
  rintro e W3 ⟨rfl, hO3, hg3⟩
  have HO3 := Lib.hid hO3
  have HB3 := Lib.hid (HB.out.grown hg3 HB.out.size (fun g hg => (Orow.lt HO.out hg).1))
  clear hO3 hg3 HS
  go_wp2_with fail
  go_ret
  exact ⟨⟨_, rfl, HO3.out⟩, HB3.out⟩
end Go.Proofs.YtihcmifikbkbcaaGreat
