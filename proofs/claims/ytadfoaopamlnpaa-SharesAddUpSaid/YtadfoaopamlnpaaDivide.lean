/- measure.divide: the parts add up to the whole. -/
import Derived.Test.YtadfoaopamlnpaaApp2
import Derived.Deep.Cut
import Derived.Deep.CutBlock
import Derived.Deep.DeepCutAuto
namespace Go.Proofs.Ytadfoaopamlnpaa
set_option linter.unusedVariables false
open Go.RowKit

def ci (ws : List Nat) : List Int := ws.map fun z : Nat => (z : Int)
theorem ci_len (ws : List Nat) : (ci ws).length = ws.length := by simp [ci]
theorem ci_get {ws : List Nat} {i : Nat} (h : i < (ci ws).length) : (ci ws)[i] = ((ws[i]'(by rw [ci_len] at h; exact h) : Nat) : Int) := by simp [ci]
theorem ci_sum (ws : List Nat) : (ci ws).sum = (ws.sum : Int) := Hb.sum_cast ws
theorem ci_snoc (ws : List Nat) (z : Nat) : ci (ws ++ [z]) = ci ws ++ [(z : Int)] := by simp [ci]

/-- What lies below block n. -/
def Frz.low (w : World) (n : Nat) : Frz := fun b => if b < n then w.heap[b]? else none
theorem Frz.low_in {w W : World} {n : Nat} (h : Below n w W) (hn : n ≤ w.heap.size) : (Frz.low w n).In W := fun b o e => by
  unfold Frz.low at e
  split at e
  · rename_i hb
    exact (h.block b hb).trans e
  · cases e
theorem Frz.low_none {w : World} {n b : Nat} (h : n ≤ b) : Frz.low w n b = none := by unfold Frz.low; rw [if_neg (by omega)]
theorem Frz.low_cell {w : World} {n : Nat} {p : Addr} {v : Value} (h : p.block < n) (hs : p.spot = none) (e : w.cell? p = some v) : (Frz.low w n).cell? p = some v := by
  unfold Frz.cell? Frz.low
  rw [if_pos h]
  unfold World.cell? at e
  revert e
  cases w.heap[p.block]? with
  | none => intro e; cases e
  | some o =>
    cases o <;> intro e <;> first | (simp only [hs, Option.isSome_none] at e ⊢; exact e) | cases e

/-- Two rows that are filled side by side. -/
def Two (w : World) (B : Nat) (u v : Value) (xs ys : List Nat) (wr : World) : Prop :=
  IRow wr B u (ci xs) ∧ IRow wr B v (ci ys) ∧ (u.ownBlock = none ∨ v.ownBlock = none ∨ u.ownBlock ≠ v.ownBlock) ∧ Below B w wr

theorem two_ne {u v : Value} (h : u.ownBlock = none ∨ v.ownBlock = none ∨ u.ownBlock ≠ v.ownBlock) : v.ownBlock = none ∨ v.ownBlock ≠ u.ownBlock := by
  rcases h with h | h | h
  · cases e : v.ownBlock with
    | none => exact Or.inl rfl
    | some g => exact Or.inr (by rw [h]; simp)
  · exact Or.inl h
  · exact Or.inr (Ne.symm h)
theorem two_keep {wr w1 w2 : World} {B n1 : Nat} {u v v1 : Value} {xs ys : List Int} {us : List Value} {e : TypeId} (h1 : IRow wr B u xs) (h2 : IRow wr B v ys) (o1 : w1.ownsRow B e 1 v1 n1 us) (g1 : wr.grownBy w1 u.ownBlock) (g2 : w1.grownBy w2 v.ownBlock)
    (h : u.ownBlock = none ∨ v.ownBlock = none ∨ u.ownBlock ≠ v.ownBlock) (at1 : v1.ownBlock = u.ownBlock ∨ ∃ g, v1.ownBlock = some g ∧ wr.heap.size < g) : w2.ownsRow B e 1 v1 n1 us := by
  refine o1.kept g2 ?_
  rcases at1 with h' | ⟨g, h', hg⟩
  · rw [h']; exact two_ne (by rcases h with h | h | h <;> first | exact Or.inl h | exact Or.inr (Or.inl h) | exact Or.inr (Or.inr (Ne.symm h)))
  · right
    rw [h']
    intro c
    have := (h2.lt g c.symm).2
    omega

theorem two_next {W0 wr w1 w2 : World} {B i q : Nat} {u7 u8 v1 v2 : Value} {P : List Nat} (hlt : i < P.length) (hq : P[i] = q)
    (T1 : IRow wr B u7 (ci (P.take i))) (T2 : IRow wr B u8 (ci (List.range i))) (T3 : u7.ownBlock = none ∨ u8.ownBlock = none ∨ u7.ownBlock ≠ u8.ownBlock) (T4 : Below B W0 wr)
    (O1 : w1.ownsRow B 3 1 v1 ((ci (P.take i)).length + 1) ((ci (P.take i)).map (Value.int .i64) ++ [.int .i64 (q : Int)])) (G1 : wr.grownBy w1 u7.ownBlock) (A1 : v1.ownBlock = u7.ownBlock ∨ ∃ g, v1.ownBlock = some g ∧ wr.heap.size < g)
    (O1' : w2.ownsRow B 3 1 v1 ((ci (P.take i)).length + 1) ((ci (P.take i)).map (Value.int .i64) ++ [.int .i64 (q : Int)]))
    (O2 : w2.ownsRow B 3 1 v2 ((ci (List.range i)).length + 1) ((ci (List.range i)).map (Value.int .i64) ++ [.int .i64 (i : Int)])) (G2 : w1.grownBy w2 u8.ownBlock) (A2 : v2.ownBlock = u8.ownBlock ∨ ∃ g, v2.ownBlock = some g ∧ w1.heap.size < g) (hB : B ≤ wr.heap.size) :
    ∃ g cap, v1 = .slice (some ⟨g, 0, none⟩) (i + 1) cap ∧ i + 1 ≤ cap ∧ w2.cell? ⟨g, i, none⟩ = some (.int .i64 (q : Int)) ∧ Two W0 B v1 v2 (P.take (i + 1)) (List.range (i + 1)) w2 := by
  have e1 : ci (P.take (i + 1)) = ci (P.take i) ++ [(q : Int)] := by rw [List.take_succ_eq_append_getElem hlt, ci_snoc, hq]
  have e2 : ci (List.range (i + 1)) = ci (List.range i) ++ [(i : Int)] := by rw [List.range_succ, ci_snoc]
  have I1 : IRow w2 B v1 (ci (P.take (i + 1))) := by rw [e1]; unfold IRow; simpa using O1'
  have I2 : IRow w2 B v2 (ci (List.range (i + 1))) := by rw [e2]; unfold IRow; simpa using O2
  have hl1 : (ci (P.take (i + 1))).length = i + 1 := by rw [ci_len, List.length_take]; omega
  obtain ⟨g, cap, rest, hv, hle, hB', hlt', hm, hblk, hr⟩ := I1.form (by intro c; rw [c] at hl1; simp at hl1)
  rw [hl1] at hv hle
  have hc := hblk.cell i (by omega)
  have hget : (ci (P.take (i + 1)))[i]'(by omega) = (q : Int) := by simp [ci, hq]
  rw [hget] at hc
  refine ⟨g, cap, hv, hle, hc, I1, I2, ?_, ?_⟩
  · rcases A2 with A2 | ⟨g2, A2, hg2⟩
    · rcases A1 with A1 | ⟨g1, A1, hg1⟩
      · rw [A1, A2]; exact T3
      · cases e : u8.ownBlock with
        | none => right; left; rw [A2, e]
        | some q8 =>
          right; right
          rw [A1, A2, e]
          intro c
          injection c with c
          have := (T2.lt q8 e).2
          omega
    · right; right
      rw [A2]
      intro c
      have := (O1.lt g2 c).2
      omega
  · exact (T4.grown G1 (Nat.le_trans hB (Nat.le_refl _)) (fun k hk => (T1.lt k hk).1)).grown G2 (Nat.le_trans hB G1.size) (fun k hk => (T2.lt k hk).1)

/-- The second loop: the parts so far. -/
def DInv (W0 : World) (g7 g8 : Nat) (os : List Int) (rest7 rest8 : List Value) (c n m : Nat) (ps : List Nat) (wr : World) : Prop :=
  ps.length = n ∧ ps.sum = m ∧ IBlk wr g7 (ci ps) rest7 ∧ IBlk wr g8 os rest8 ∧ Below W0.heap.size W0 wr
theorem DInv.step {W0 wr : World} {g7 g8 : Nat} {os : List Int} {rest7 rest8 : List Value} {c n m o : Nat} {ps : List Nat} (h : DInv W0 g7 g8 os rest7 rest8 c n m ps wr) (ho : o < ps.length) (h78 : g7 ≠ g8) (hB7 : W0.heap.size ≤ g7) :
    DInv W0 g7 g8 os rest7 rest8 c n (m + 1) (ps.set o (ps[o] + 1)) (wr.setCell ⟨g7, o, none⟩ (.int .i64 ((ps[o] : Int) + 1))) := by
  obtain ⟨h1, h2, h3, h4, h5⟩ := h
  refine ⟨by simp [h1], by rw [Hb.sum_set ho, h2], ?_, ?_, h5.setCell hB7 _⟩
  · have := h3.set_ o (by rw [ci_len]; exact ho) ((ps[o] : Int) + 1)
    have e : (ci ps).set o ((ps[o] : Int) + 1) = ci (ps.set o (ps[o] + 1)) := by simp [ci, List.map_set]
    rw [e] at this
    exact this
  · exact (Below.heap_setCell wr ⟨g7, o, none⟩ _ g8 (fun e => h78 e.symm)).trans h4
def DPost (c n : Nat) (w : World) (e : Ending) (w' : World) : Prop := ∃ (v : Value) (ps : List Nat), e = .returned v ∧ ps.length = n ∧ ps.sum = c ∧ IRow w' w.heap.size v (ci ps) ∧ Below w.heap.size w w'
theorem divide_fin {w W0 wr : World} {g7 g8 cap7 : Nat} {os : List Int} {rest7 rest8 : List Value} {c n P lf j : Nat} {ps : List Nat} (hjl : ¬ j < lf) (hj : j ≤ lf) (hs : P + lf = c) (hB7 : W0.heap.size ≤ g7) (hm : cap7 ≤ maxLen) (hle : n ≤ cap7) (hr : rest7.length = cap7 - n)
    (h : DInv W0 g7 g8 os rest7 rest8 c n (P + j) ps wr) (hsz : W0.heap.size = w.heap.size + 3) (hb : Below w.heap.size w W0) : DPost c n w (.returned (.slice (some ⟨g7, 0, none⟩) n cap7)) wr := by
  obtain ⟨h1, h2, h3, h4, h5⟩ := h
  refine ⟨_, ps, rfl, h1, by omega, ?_, hb.trans (h5.mono (by omega))⟩
  have := IRow.of_blk (B := w.heap.size) h3 (by omega) hm (by rw [ci_len, h1]; exact hle) (by rw [ci_len, h1]; exact hr)
  rw [ci_len, h1] at this
  exact this

set_option maxHeartbeats 2000000 in
set_option maxRecDepth 100000 in
theorem divide_any (c : Nat) (ws : List Nat) (A : Option Addr) (cap : Nat) (w : World) (hA : Ints w A (ci ws)) (hl : ws.length ≤ 12) (hw : ∀ z ∈ ws, z ≤ 1000000) (h0 : 0 < ws.sum) (hc : c ≤ 1000000000000) :
    Calls Try.prog 70 #[.int .i64 c, .slice A ws.length cap] w (DPost c ws.length w) := by
  have HA := Lib.hid hA
  have HW := Lib.hid hw
  have HP := Lib.hid (Hb.parts_sum c ws h0)
  have hsb := Hb.sum_le hw
  have hs12 : ws.sum ≤ 12000000 := by
    have : ws.length * 1000000 ≤ 12 * 1000000 := Nat.mul_le_mul_right _ hl
    omega
  clear hA hw hsb
  obtain ⟨i0, hi0, hz0, hz1, hz2⟩ := info_parts infoInt
  go_enter Try.func70, Try.ntmps70
  go_wp2_with fail
  have HI1 : Ints ((w.alloc (.cells #[.int .i64 c] 3)).alloc (.cells #[.slice A ws.length cap] 22)) A (ci ws) := by
    intro i hi
    obtain ⟨b, off, hb, hc⟩ := HA.out i hi
    have hlt : b < w.heap.size := World.block_lt_of_cell? w _ hc
    refine ⟨b, off, hb, ?_⟩
    simp only [World.cell?] at hc ⊢
    rw [heap_lt (by simp; omega), heap_lt hlt]
    exact hc
  have hlen := ci_len ws
  rw [← hlen] at HI1 ⊢
  refine (sumOf_any A cap (ci ws) _ HI1 (by
    intro z hz
    obtain ⟨y, hy, rfl⟩ := List.mem_map.1 hz
    have := HW.out y hy
    constructor <;> omega) (by omega)).mono ?_
  rintro e w' ⟨rfl, rfl⟩
  rw [hlen, ci_sum]
  go_upto_region 2 with (fail)
  generalize hW0 : World.alloc _ _ = W0
  have hsz0 : W0.heap.size = w.heap.size + 3 := by rw [← hW0]; simp
  have hbw0 : Below w.heap.size w W0 := by
    rw [← hW0]
    exact (((Below.refl _ _).alloc (Nat.le_refl _) _).alloc (by simp <;> omega) _).alloc (by simp <;> omega) _
  have hc1 : W0.cell? ⟨w.heap.size, 0, none⟩ = some (.int .i64 c) := by
    rw [← hW0]; simp only [World.cell?]
    rw [heap_lt (by simp <;> omega), heap_lt (by simp), heap_at rfl]; rfl
  have hc2 : W0.cell? ⟨w.heap.size + 1, 0, none⟩ = some (.slice A ws.length cap) := by
    rw [← hW0]; simp only [World.cell?]
    rw [heap_lt (by simp), heap_at (by simp <;> omega)]; rfl
  have hc3 : W0.cell? ⟨w.heap.size + 1 + 1, 0, none⟩ = some (.int .i64 ws.sum) := by
    rw [← hW0]; simp only [World.cell?]
    rw [heap_at (by simp <;> omega)]; rfl
  have hI0 : Hid (Ints W0 A (ci ws)) := by
    intro i hi
    obtain ⟨b, off, hb, hc⟩ := HA.out i hi
    have hlt : b < w.heap.size := World.block_lt_of_cell? w _ hc
    exact ⟨b, off, hb, (World.cell?_of_block (a := ⟨b, off + i, none⟩) (hbw0.block b hlt)).trans hc⟩
  have HW0 := Lib.hid hW0
  clear hW0 hlen
  have hPl := Hb.parts_length c ws.sum ws
  have hPg : Hid (∀ i (h : i < (Hb.parts c ws.sum ws).length), (Hb.parts c ws.sum ws)[i] = c * ws[i]'(by rw [hPl] at h; exact h) / ws.sum) := fun i h => by simp [Hb.parts]
  generalize Hb.parts c ws.sum ws = P at HP hPl hPg
  go_wp2_with fail
  go_loopw [6, 7, 8, 18] (fun l u v t wr => ∃ i : Nat, i ≤ ws.length ∧ t = .int .i64 i ∧ l = .int .i64 ((c : Int) - ((P.take i).sum : Nat)) ∧ Two W0 W0.heap.size u v (P.take i) (List.range i) wr) (fun _ _ _ t _ => ws.length - (intOf t).toNat)
  case atStart => exact ⟨0, Nat.zero_le _, rfl, by simp, IRow.nil _ _, IRow.nil _ _, Or.inl rfl, Below.refl _ _⟩
  case round =>
    obtain ⟨i, hi, rfl, rfl, T1, T2, T3, T4⟩ := hrel
    have hst : (P.take i).sum ≤ c := Nat.le_trans (Hb.sum_take_le P i) HP.out.1
    have d1 := (World.cell?_of_block (a := ⟨w.heap.size, 0, none⟩) (T4.block (w.heap.size) (by omega))).trans hc1
    have d2 := (World.cell?_of_block (a := ⟨w.heap.size + 1, 0, none⟩) (T4.block (w.heap.size + 1) (by omega))).trans hc2
    have d3 := (World.cell?_of_block (a := ⟨w.heap.size + 1 + 1, 0, none⟩) (T4.block (w.heap.size + 1 + 1) (by omega))).trans hc3
    by_cases hlt : i < ws.length
    · obtain ⟨b, off, rfl, hci⟩ := hI0.out i (by rw [ci_len]; exact hlt)
      rw [ci_get] at hci
      have hbl : b < w.heap.size := by
        obtain ⟨b', off', e, h⟩ := HA.out i (by rw [ci_len]; exact hlt)
        injection e with e
        injection e with e1 e2
        subst e1
        exact World.block_lt_of_cell? w _ h
      have hz6 := HW.out _ (List.getElem_mem hlt)
      have hPi := Lib.hid (hPg.out i (by omega))
      have hts := Lib.hid (Hb.sum_take_succ (ws := P) (k := i) (by omega))
      have htk := Lib.hid (List.take_succ_eq_append_getElem (l := P) (i := i) (by omega))
      have hzs := Hb.mem_le_sum (List.getElem_mem hlt)
      have dci := (World.cell?_of_block (a := ⟨b, off + i, none⟩) (T4.block b (by omega))).trans hci
      clear hci
      generalize ws[i] = z at hz6 hPi hzs dci
      have hq : c * z / ws.sum ≤ c := Hb.parts_each hzs
      have hcz : c * z ≤ 1000000000000 * 1000000 := Nat.mul_le_mul hc hz6
      have m1 : IntKind.i64.wrap ((c : Int) * (z : Int)) = ((c * z : Nat) : Int) := by
        rw [Int.natCast_mul]
        refine IntWalk.i64_in _ ?_
        rw [← Int.natCast_mul]
        omega
      have m2 : Int.tdiv ((c * z : Nat) : Int) (ws.sum : Int) = ((c * z / ws.sum : Nat) : Int) := rfl
      have m3 : ((ws.sum : Int) == 0) = false := by simp; omega
      have hts' := Lib.hid ((hts.out).trans (by rw [hPi.out]))
      have htk' := Lib.hid ((htk.out).trans (by rw [hPi.out]))
      clear hts htk hPg
      generalize c * z / ws.sum = q at hq m2 hts' htk' hPi
      generalize c * z = cz at hcz m1 m2
      have tok1 : True := trivial
      have hlp : (ci (P.take i)).length ≤ 12 := by rw [ci_len, List.length_take]; omega
      have hlr : (ci (List.range i)).length ≤ 12 := by rw [ci_len, List.length_range]; omega
      have T1 := Lib.hid T1
      have T2 := Lib.hid T2
      have T3 := Lib.hid T3
      have hsz := T4.size
      go_wp2_with (first
        | (at_builtin; have _t := tok1; refine wpList_append1_at rfl (.tmp 23) (.tmp 29) 22 rfl W0.heap.size 3 i0 (.int .i64 0) 1 8 Try.underlying22 hi0 hz0 hz1 hz2 rfl (by decide) u7 _ _ rfl T1.out.own #[.int .i64 q] 3 rfl rfl (by simp [Value.oneCell']) (by omega) (by omega) hsz ?_; clear tok1 _t; intro v1 w1 o1 g1 b1 at1; have O1 := Lib.hid o1; have G1 := Lib.hid g1; have A1 := Lib.hid at1; have hsz1 := Nat.le_trans hsz g1.size; clear o1 g1 at1 b1; have T2' := Lib.hid (T2.out.kept G1.out (two_ne T3.out)); have tok2 : True := trivial)
        | (at_builtin; have _t := tok2; refine wpList_append1_at rfl (.tmp 31) (.tmp 33) 22 rfl W0.heap.size 3 i0 (.int .i64 0) 1 8 Try.underlying22 hi0 hz0 hz1 hz2 rfl (by decide) u8 _ _ rfl T2'.out.own #[.int .i64 i] 3 rfl rfl (by simp [Value.oneCell']) (by omega) (by omega) hsz1 ?_; clear tok2 _t; intro v2 w2 o2 g2 b2 at2; have O1' := Lib.hid (two_keep T1.out T2.out O1.out G1.out g2 T3.out A1.out); have O2 := Lib.hid o2; have G2 := Lib.hid g2; have A2 := Lib.hid at2; clear o2 g2 at2 b2; obtain ⟨g7, cap7, hv1, hle7, hc7, T'⟩ := two_next (by omega) hPi.out T1.out T2.out T3.out T4 O1.out G1.out A1.out O1'.out O2.out G2.out A2.out hsz; subst hv1; have TN := Lib.hid T'; clear T'))
      go_wp2_with fail
      go_roundw
      case rel => exact ⟨i + 1, by omega, by go_num, by rw [hts'.out]; congr 1; omega, TN.out⟩
      case measure => simp [intOf]; omega
    · obtain rfl : i = ws.length := by omega
      have hPt : P.take ws.length = P := List.take_of_length_le (by omega)
      rw [hPt] at T1 hst
      have hleft : ((c : Int) - ((P.take ws.length).sum : Nat)) = ((c - P.sum : Nat) : Int) := by rw [hPt]; omega
      rw [hleft]
      have hlf : c - P.sum ≤ ws.length := by have := HP.out; omega
      have hsum : Hid (P.sum + (c - P.sum) = c) := by have := HP.out.1; show _ = _; omega
      have hPc := HP.out.1
      generalize c - P.sum = lf at hlf hsum
      have hne : ws ≠ [] := by intro e; rw [e] at h0; simp at h0
      have hpos : 0 < ws.length := List.length_pos_iff.2 hne
      have hl8 : (ci (List.range ws.length)).length = ws.length := by rw [ci_len, List.length_range]
      have hl7 : (ci P).length = ws.length := by rw [ci_len, hPl]
      obtain ⟨g8, cap8, rest8, hv8, hle8, hB8, hlt8, hm8, hblk8, hr8⟩ := T2.form (by intro e; rw [e] at hl8; simp at hl8; omega)
      obtain ⟨g7, cap7, rest7, hv7, hle7, hB7, hlt7, hm7, hblk7, hr7⟩ := T1.form (by intro e; rw [e] at hl7; simp at hl7; omega)
      rw [hl8] at hv8 hle8 hr8
      rw [hl7] at hv7 hle7 hr7
      have h78 : g7 ≠ g8 := by
        rw [hv7, hv8] at T3
        rcases T3 with h | h | h
        · cases h
        · cases h
        · intro e; apply h; rw [e]; rfl
      subst hv8 hv7
      have hcmp : CmpAt (Frz.low W0 W0.heap.size) 94 [.pointer (some ⟨w.heap.size, 0, none⟩), .pointer (some ⟨w.heap.size + 1, 0, none⟩), .pointer (some ⟨w.heap.size + 1 + 1, 0, none⟩)] (fun z => 0 ≤ z ∧ z < ws.length) := by
        intro W a b hH ha hb
        refine byRest_any (Frz.low W0 W0.heap.size) a b ⟨w.heap.size, 0, none⟩ ⟨w.heap.size + 1, 0, none⟩ ⟨w.heap.size + 1 + 1, 0, none⟩ c ws.sum A cap (ci ws) W hH ?_ ?_ ?_ ?_ (by omega) ha.1 (by rw [ci_len]; exact ha.2) hb.1 (by rw [ci_len]; exact hb.2)
        · exact Frz.low_cell (by show w.heap.size < _; omega) rfl hc1
        · rw [ci_len]; exact Frz.low_cell (by show w.heap.size + 1 < _; omega) rfl hc2
        · exact Frz.low_cell (by show w.heap.size + 1 + 1 < _; omega) rfl hc3
        · intro j hj
          obtain ⟨b', off', e', h'⟩ := hI0.out j hj
          exact ⟨b', off', e', Frz.low_cell (World.block_lt_of_cell? W0 _ h') rfl h'⟩
      have HCMP := Lib.hid hcmp
      have HIN := Lib.hid (Frz.low_in T4 (Nat.le_refl _))
      have HB8 := Lib.hid hblk8
      have HB7 := Lib.hid hblk7
      have HR7 := Lib.hid hr7
      have HT4 := Lib.hid T4
      have hPe : Hid (∀ z ∈ P, z ≤ c) := fun z hz => Nat.le_trans (Hb.mem_le_sum hz) hPc
      have HPL := Lib.hid hPl
      clear hcmp T1 T2 T3 T4 hblk7 hblk8 hr7 hr8 hl7 hl8 hPt hleft hPl hc1 hc2 hc3 d1 d2 d3 HI1 HW0 HP hPg hst
      go_wp2_with fail
      refine (sortFunc_any (Frz.low W0 W0.heap.size) 94 _ (fun z => 0 ≤ z ∧ z < ws.length) HCMP.out (fun a b W => rfl) g8 ws.length cap8 (ci (List.range ws.length)) rest8 _ (by rw [ci_len, List.length_range]) hle8 hl HIN.out (Frz.low_none hB8) HB8.out ?_).mono ?_
      · intro z hz
        obtain ⟨y, hy, rfl⟩ := List.mem_map.1 hz
        have := List.mem_range.1 hy
        constructor <;> omega
      rintro e w1 ⟨os, rfl, o1, o2, o3, o4, o5⟩
      have O1 := Lib.hid o1
      have O2 := Lib.hid o2
      have B7 : Hid (IBlk w1 g7 (ci P) rest7) := (o4.block g7 hlt7 (fun e => h78 (by injection e))).trans HB7.out
      have B8 := Lib.hid o3
      have O4 := Lib.hid (HT4.out.grown o4 HT4.out.size (fun k hk => by injection hk with hk; omega))
      clear o1 o2 o3 o4 o5 HB7 HB8 HCMP HIN HT4
      go_wp2_with fail
      go_loopw [49] (fun t wr => ∃ (j : Nat) (ps : List Nat), j ≤ lf ∧ t = .int .i64 j ∧ DInv W0 g7 g8 os rest7 rest8 c ws.length (P.sum + j) ps wr) (fun t _ => lf - (intOf t).toNat)
      case atStart => exact ⟨0, P, by omega, rfl, HPL.out, rfl, B7.out, B8.out, O4.out⟩
      case round =>
        obtain ⟨j, ps, hj, rfl, J⟩ := hrel
        clear B7 B8 O4
        by_cases hjl : j < lf
        · have hos := O1.out
          have ho := O2.out _ (List.getElem_mem (show j < os.length by omega))
          have cj := J.2.2.2.1.cell j (by omega)
          generalize os[j]'(by omega) = o at cj ho
          obtain ⟨o, rfl⟩ := Int.eq_ofNat_of_zero_le ho.1
          have ho2 : o < ws.length := by omega
          have hpl := J.1
          have hol : o < ps.length := by omega
          have co := J.2.2.1.cell o (by rw [ci_len]; omega)
          rw [ci_get] at co
          have fo := J.2.2.1.frozen o
          have hov : ps[o] ≤ c := by
            have h1 := Hb.mem_le_sum (List.getElem_mem hol)
            have h2 := J.2.1
            have h3 := hsum.out
            omega
          have JN := Lib.hid (J.step hol h78 hB7)
          have hoc : (o : Int) < ws.length := by omega
          clear ho J hos hpl
          generalize ps[o] = y at co hov JN
          clear hol
          go_wp2_with fail
          go_roundw
          case rel => exact ⟨j + 1, _, by omega, by go_num, JN.out⟩
          case measure => simp [intOf]; omega
        · have JN := Lib.hid J
          clear J
          go_wp2_with fail
          go_ret
          exact divide_fin hjl hj hsum.out hB7 hm7 hle7 HR7.out JN.out hsz0 hbw0
end Go.Proofs.Ytadfoaopamlnpaa
