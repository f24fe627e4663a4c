/- Texts of this claim, put together: OfCut, Repeat, OfFree. -/
import Derived.Test.YtihcmifikbkbcaaGreatPD
import Derived.Test.YtihcmifikbkbcaaGreatPE
import Derived.Lib.SlicesS
import Derived.Test.YtihcmifikbkbcaaGreatPA
import Derived.Test.YtihcmifikbkbcaaGreatPB
import Derived.Test.YtihcmifikbkbcaaGreatPC
/- What percentages and amounts take from items. -/
namespace Go.Proofs.YtihcmifikbkbcaaGreat
set_option linter.unusedVariables false
open Go.RowKit
theorem made_int {w : World} {B g n : Nat} (h : w.ownsRow B 3 1 (.slice (some ⟨g, 0, none⟩) n n) n (madeCells (Value.int .i64 0).cells (n * 1)).toList) : KBlk w g 3 1 fN (List.replicate n 0) [] := by
  rcases h.2 with ⟨h1, _⟩ | ⟨g', cap, cur, hv, hB, hh, hle, hm, hs, ht⟩
  · cases h1
  · injection hv with e1 e2 e3
    injection e1 with e1
    injection e1 with e1
    subst e1 e3
    unfold KBlk
    rw [hh]
    have h2 : cur.toList = (madeCells (Value.int .i64 0).cells (n * 1)).toList := by
      rw [← ht, List.take_of_length_le (by simp [hs])]
    have h3 : (madeCells (Value.int .i64 0).cells (n * 1)).toList = List.replicate (n * 1) (.int .i64 0) := toList_madeCells_one _ _
    rw [h3] at h2
    have h4 : cellsOf 1 fN (List.replicate n 0) = List.replicate (n * 1) (.int .i64 0) := by rw [cellsOf_one, List.map_replicate, Nat.mul_one]; rfl
    rw [h4, List.append_nil, ← h2]
theorem fill_set {P : List Nat} {i n : Nat} (hi : i < P.length) (hn : P.length = n) (x : Nat) (hx : P[i] = x) : (P.take i ++ List.replicate (n - i) 0).set i x = P.take (i + 1) ++ List.replicate (n - (i + 1)) 0 := by
  subst hx hn
  rw [List.set_append_right _ _ (by rw [List.length_take]; omega), List.length_take, Nat.min_eq_left (by omega), Nat.sub_self, show P.length - i = (P.length - (i + 1)) + 1 from by omega, List.replicate_succ, List.set_cons_zero, List.take_succ_eq_append_getElem hi, List.append_assoc]
  rfl
theorem fill_keep {P : List Nat} {i n : Nat} (hi : i < P.length) (hn : P.length = n) (hx : P[i] = 0) : P.take i ++ List.replicate (n - i) 0 = P.take (i + 1) ++ List.replicate (n - (i + 1)) 0 := by
  subst hn
  rw [show P.length - i = (P.length - (i + 1)) + 1 from by omega, List.replicate_succ, List.take_succ_eq_append_getElem hi, List.append_assoc, hx]
  rfl
set_option maxHeartbeats 4000000 in
set_option maxRecDepth 100000 in
theorem most_any (B : Nat) (v : Value) (l : List Nat) (g : Nat) (w : World) (hO : Orow w B 3 1 fN v l) (hB : B ≤ w.heap.size) (hl : l.length ≤ 19) (hw : ∀ z ∈ l, z ≤ 1000000000) (hg : g ≤ 1000000000000) :
    Calls Tryz.prog 110 #[v, .int .i64 (g : Int)] w fun e w' => (∃ v', e = .returned v' ∧ Orow w' B 3 1 fN v' (mostF l g)) ∧ Below w.heap.size w w' := by
  obtain ⟨A, cap, H, hv, hle, q1, -, hR, -⟩ := Orow.freezeN hO Frz.empty
  have HH := Lib.hid (q1 (Frz.In.empty w))
  have HR := Lib.hid hR
  have HO := Lib.hid hO
  have HW := Lib.hid hw
  have HM : Hid (mostF l g = if g = 0 ∨ l.sum ≤ g then l else shareF g l) := rfl
  have hsum := Hb.sum_le (ws := l) hw
  have hsb : l.sum ≤ 19000000000 := by have : l.length * 1000000000 ≤ 19 * 1000000000 := Nat.mul_le_mul_right _ hl; omega
  subst hv
  clear hO q1 hR hw hsum
  go_enter Tryz.func110, Tryz.ntmps110
  go_wp2_with fail
  go_loop [5, 10] (fun s t => ∃ i : Nat, i ≤ l.length ∧ t = .int .i64 i ∧ s = .int .i64 ((l.take i).sum : Nat)) (fun _ t => l.length - (intOf t).toNat)
  case atStart => exact ⟨0, by omega, rfl, rfl⟩
  case round =>
    obtain ⟨i, hi, rfl, rfl⟩ := hrel
    by_cases hlt : i < l.length
    · obtain ⟨b, off, hA, hbl, hc0⟩ := HR.out.at_ HH.out hlt (by omega)
      subst hA
      have c0 : w.cell? ⟨b, off + i, none⟩ = some (.int .i64 (l[i] : Nat)) := by simpa [fN] using hc0 0 (by omega)
      have hs := Hb.sum_take_succ hlt
      have hs2 := Hb.sum_take_le l (i + 1)
      have hlt2 : (i : Int) < l.length := by omega
      have HS : Hid (((l.take (i + 1)).sum : Int) = ((l.take i).sum : Int) + (l[i] : Int)) := by show _ = _; omega
      clear hc0
      generalize l[i] = z at *
      generalize (l.take i).sum = s0 at *
      go_wp2_with fail
      go_round
      case rel => exact ⟨i + 1, by omega, by go_num, by rw [HS.out]⟩
      case measure => simp [intOf]; omega
    · have hie : i = l.length := by omega
      subst hie
      rw [List.take_length]
      by_cases h1 : g = 0
      · have HM2 := Lib.hid (HM.out.trans (if_pos (Or.inl h1)))
        have k1 : ((g : Int) == 0) = true := by simp; omega
        clear HM h1
        go_wp2_with fail
        go_ret
        exact ⟨⟨_, rfl, by rw [HM2.out]; exact HO.out⟩, Below.refl _ _⟩
      · have k1 : ((g : Int) == 0) = false := by simp; omega
        by_cases h2 : l.sum ≤ g
        · have HM2 := Lib.hid (HM.out.trans (if_pos (Or.inr h2)))
          have k2 : (l.sum : Int) ≤ (g : Int) := by omega
          clear HM h1
          go_wp2_with fail
          go_ret
          exact ⟨⟨_, rfl, by rw [HM2.out]; exact HO.out⟩, Below.refl _ _⟩
        · have HM2 := Lib.hid (HM.out.trans (if_neg (by omega)))
          have k2 : ¬ (l.sum : Int) ≤ (g : Int) := by omega
          have HSH := Lib.hid (share_any H g l A cap w HH.out HR.out hl HW.out hg (by omega))
          clear HM h1
          go_wp2_with fail
          refine HSH.out.mono ?_
          rintro e w' ⟨⟨v', rfl, hO'⟩, hb⟩
          have HO' := Lib.hid (hO'.mono hB)
          have HB' := Lib.hid hb
          clear hO' hb HSH
          go_wp2_with fail
          go_ret
          exact ⟨⟨_, rfl, by rw [HM2.out]; exact HO'.out⟩, HB'.out⟩
/-- A pricer, laid for good. -/
structure PF (H : Frz) (g : Nat) (A : Option Addr) (cap : Nat) (xs : List ItD) (bship : Int) (Al : Option Addr) (capl : Nat) (left : List Nat) (ship : Nat) : Prop where
  blk : H g = some (.cells #[.slice A xs.length cap, .int .i64 bship, .slice Al left.length capl, .int .i64 (ship : Int)] 120 (0, 0))
  row : Rw H A 4 fIt xs
  its : ∀ x ∈ xs, ItIn H x
  lrow : Rw H Al 1 fN left
  len : xs.length = left.length
  small : left.length ≤ 19
  bd : ∀ z ∈ left, z ≤ 1000000000
theorem PF.le {H H' : Frz} {g : Nat} {A : Option Addr} {cap : Nat} {xs : List ItD} {bship : Int} {Al : Option Addr} {capl : Nat} {left : List Nat} {ship : Nat} (h : PF H g A cap xs bship Al capl left ship) (l : H.Le H') : PF H' g A cap xs bship Al capl left ship :=
  ⟨l _ _ h.blk, h.row.le l, fun x hx => (h.its x hx).le l, h.lrow.le l, h.len, h.small, h.bd⟩
/-- What is so in the loop of a cut. -/
structure CutS (H : Frz) (w : World) (g5 : Nat) (P : List Nat) (n i : Nat) (wr : World) : Prop where
  inn : H.In wr
  bel : Below w.heap.size w wr
  blk : KBlk wr g5 3 1 fN (P.take i ++ List.replicate (n - i) 0) []
  ge : w.heap.size ≤ g5
  no : H g5 = none
theorem CutS.call {H : Frz} {w wr W' : World} {g5 n i : Nat} {P : List Nat} (h : CutS H w g5 P n i wr) (hb : Below wr.heap.size wr W') : CutS H w g5 P n i W' := ⟨h.inn.below hb, h.bel.trans (hb.mono h.bel.size), h.blk.keep hb, h.ge, h.no⟩
theorem CutS.set {H : Frz} {w wr : World} {g5 n i : Nat} {P : List Nat} (h : CutS H w g5 P n i wr) (hi : i < P.length) (hn : P.length = n) : wr.cell? ⟨g5, i, none⟩ = some (.int .i64 0) ∧ wr.frozen? ⟨g5, i, none⟩ = false ∧ CutS H w g5 P n (i + 1) (wr.setCell ⟨g5, i, none⟩ (.int .i64 (P[i] : Int))) := by
  have hlen : (P.take i ++ List.replicate (n - i) 0).length = n := by simp; omega
  have h1 := h.blk.cell1 i (by rw [hlen]; omega)
  have h0 : (P.take i ++ List.replicate (n - i) 0)[i]'(by rw [hlen]; omega) = 0 := by
    rw [List.getElem_append_right (by rw [List.length_take]; omega)]
    simp
  rw [h0] at h1
  refine ⟨h1, h.blk.frozen i, h.inn.setCell h.no _, h.bel.setCell h.ge _, ?_, h.ge, h.no⟩
  have h2 := h.blk.set1 i (by rw [hlen]; omega) P[i]
  rw [fill_set hi hn P[i] rfl] at h2
  exact h2
theorem CutS.skip {H : Frz} {w wr : World} {g5 n i : Nat} {P : List Nat} (h : CutS H w g5 P n i wr) (hi : i < P.length) (hn : P.length = n) (h0 : P[i] = 0) : CutS H w g5 P n (i + 1) wr :=
  ⟨h.inn, h.bel, by rw [← fill_keep hi hn h0]; exact h.blk, h.ge, h.no⟩
theorem CutS.row {H : Frz} {w wr : World} {g5 n : Nat} {P : List Nat} (h : CutS H w g5 P n n wr) (hn : P.length = n) (hm : n ≤ 1000000) : Orow wr w.heap.size 3 1 fN (.slice (some ⟨g5, 0, none⟩) n n) P := by
  have h1 := h.blk
  rw [List.take_of_length_le (by omega), Nat.sub_self, List.replicate_zero, List.append_nil] at h1
  have := Orow.of_blk (B := w.heap.size) (cap := n) h1 h.ge (by simp only [maxLen]; omega) (by omega) (by simp [hn])
  rw [hn] at this
  exact this
set_option maxHeartbeats 4000000 in
set_option maxRecDepth 100000 in
theorem percents_any (H : Frz) (g : Nat) (A : Option Addr) (cap : Nat) (xs : List ItD) (bship : Int) (Al : Option Addr) (capl : Nat) (left : List Nat) (ship : Nat) (d : OfD) (w : World) (hH : H.In w) (hp : PF H g A cap xs bship Al capl left ship) (hd : OfIn H d)
    (ha : 1 ≤ d.a ∧ d.a ≤ 100) (hmo : 0 ≤ d.most ∧ d.most ≤ 1000000000000) :
    Calls Tryz.prog 90 #[.pointer (some ⟨g, 0, none⟩), .agg #[.string d.key, .int .i64 d.kind, .int .i64 d.a, .int .i64 d.b, .slice d.ta d.tags.length d.tc, .int .i64 d.least, .int .i64 d.most, .string d.group, .bool d.alone, .int .i64 d.order, .int .i64 d.first, .int .i64 d.last]] w fun e w' => (∃ v, e = .returned v ∧ Orow w' w.heap.size 3 1 fN v (perF d xs left)) ∧ Below w.heap.size w w' := by
  obtain ⟨i0, hi0, hz0, hz1, hz2⟩ := info_parts infoInt
  have hxl := hp.len
  have hsm := hp.small
  obtain ⟨H1, hl1, hb1, hin1⟩ := hH.put (.cells #[.string d.key, .int .i64 d.kind, .int .i64 d.a, .int .i64 d.b, .slice d.ta d.tags.length d.tc, .int .i64 d.least, .int .i64 d.most, .string d.group, .bool d.alone, .int .i64 d.order, .int .i64 d.first, .int .i64 d.last] 50)
  have HP := Lib.hid (hp.le hl1)
  have HBD := Lib.hid hb1
  have HD := Lib.hid (hd.le hl1)
  have HIN := Lib.hid hin1
  have HB0 := Lib.hid (new1 (w := w) (.cells #[.string d.key, .int .i64 d.kind, .int .i64 d.a, .int .i64 d.b, .slice d.ta d.tags.length d.tc, .int .i64 d.least, .int .i64 d.most, .string d.group, .bool d.alone, .int .i64 d.order, .int .i64 d.first, .int .i64 d.last] 50))
  have HXL := Lib.hid hxl
  clear hp hl1 hb1 hin1 hd hH
  obtain ⟨an, han⟩ := Int.eq_ofNat_of_zero_le (show 0 ≤ d.a by omega)
  obtain ⟨mn, hmn⟩ := Int.eq_ofNat_of_zero_le hmo.1
  have HAN : Hid (d.a.toNat = an) := by show _ = _; omega
  have HMN : Hid (d.most.toNat = mn) := by show _ = _; omega
  have HAN2 := Lib.hid han
  have HMN2 := Lib.hid hmn
  have ha2 : an ≤ 100 := by omega
  have hmn2 : mn ≤ 1000000000000 := by omega
  have HPE : Hid (perF d xs left = mostF (perW d xs left) mn) := by show _ = _; unfold perF; rw [HMN.out]
  have HPLE := Lib.hid (perW_le (o := d) ha.2 hxl)
  clear ha hmo han hmn
  go_enter Tryz.func90, Tryz.ntmps90
  go_upto_region 1 with (fail)
  generalize w.alloc (.cells #[.string d.key, .int .i64 d.kind, .int .i64 d.a, .int .i64 d.b, .slice d.ta d.tags.length d.tc, .int .i64 d.least, .int .i64 d.most, .string d.group, .bool d.alone, .int .i64 d.order, .int .i64 d.first, .int .i64 d.last] 50) = W1 at *
  have hk := HIN.out _ _ HP.out.blk
  have p2 := cell_h hk 2 (v := .slice Al left.length capl) rfl
  clear hk
  have HMK : Hid (∀ w2 : World, w2.ownsRow W1.heap.size 3 1 (.slice (some ⟨W1.heap.size, 0, none⟩) left.length left.length) left.length (madeCells (Value.int .i64 0).cells (left.length * 1)).toList → W1.grownBy w2 none → CutS H1 w W1.heap.size (perW d xs left) left.length 0 w2) := by
    intro w2 h1 h2
    have hb2 : Below W1.heap.size W1 w2 := ⟨h2.os, h2.tape, h2.output, h2.size, fun k hk => h2.block k hk (by simp)⟩
    refine ⟨HIN.out.below hb2, HB0.out.trans (hb2.mono HB0.out.size), ?_, HB0.out.size, HIN.out.none_ (Nat.le_refl _)⟩
    have := made_int h1
    simpa using this
  go_upto_region 2 with (at_make; refine wpList_make_full _ rfl _ _ 22 rfl W1.heap.size 3 i0 (.int .i64 0) 1 Tryz.underlying22 hi0 hz0 hz1 _ _ _ _ left.length rfl rfl rfl rfl (by rw [hz2]; omega) (by simp only [maxLen]; omega) (Nat.le_refl _) ?_; intro w2 hown2 hgrow2; have J0 := Lib.hid (HMK.out _ hown2 hgrow2); clear hown2 hgrow2 HMK)
  generalize W1.heap.size = g5 at *
  clear p2
  have hk := J0.out.inn _ _ HP.out.blk
  have p2 := cell_h hk 2 (v := .slice Al left.length capl) rfl
  clear hk
  go_wp2_with fail
  clear p2
  go_loopw [19] (fun t wr => ∃ i : Nat, i ≤ left.length ∧ t = .int .i64 i ∧ Hid (CutS H1 w g5 (perW d xs left) left.length i wr)) (fun t _ => left.length - (intOf t).toNat)
  case atStart => exact ⟨0, by omega, rfl, J0⟩
  case round =>
    obtain ⟨i, hi, rfl, J⟩ := hrel
    clear J0
    by_cases hlt : i < left.length
    · have hxi : i < xs.length := by have := HXL.out; omega
      obtain ⟨bl, offl, hAl, _, hcl⟩ := HP.out.lrow.at_ J.out.inn hlt (by omega)
      obtain ⟨bx, offx, hA, _, hcx⟩ := HP.out.row.at_ J.out.inn hxi (by omega)
      have c0 : wr.cell? ⟨bl, offl + i, none⟩ = some (.int .i64 (left[i] : Nat)) := by simpa [fN] using hcl 0 (by omega)
      have x0 : wr.cell? ⟨bx, offx + i * 4, none⟩ = some (.string xs[i].key) := hcx 0 (by omega)
      have x1 : wr.cell? ⟨bx, offx + i * 4 + 1, none⟩ = some (.int .i64 xs[i].cents) := hcx 1 (by omega)
      have x2 : wr.cell? ⟨bx, offx + i * 4 + 2, none⟩ = some (.int .i64 xs[i].many) := hcx 2 (by omega)
      have x3 : wr.cell? ⟨bx, offx + i * 4 + 3, none⟩ = some (.slice xs[i].ta xs[i].tags.length xs[i].tc) := hcx 3 (by omega)
      have hk := J.out.inn _ _ HP.out.blk
      have p0 := cell_h hk 0 (v := .slice A xs.length cap) rfl
      have hk2 := J.out.inn _ _ HBD.out
      have y0 := cell_h hk2 0 (v := .string d.key) rfl
      have y1 := cell_h hk2 1 (v := .int .i64 d.kind) rfl
      have y2 := cell_h hk2 2 (v := .int .i64 d.a) rfl
      have y3 := cell_h hk2 3 (v := .int .i64 d.b) rfl
      have y4 := cell_h hk2 4 (v := .slice d.ta d.tags.length d.tc) rfl
      have y5 := cell_h hk2 5 (v := .int .i64 d.least) rfl
      have y6 := cell_h hk2 6 (v := .int .i64 d.most) rfl
      have y7 := cell_h hk2 7 (v := .string d.group) rfl
      have y8 := cell_h hk2 8 (v := .bool d.alone) rfl
      have y9 := cell_h hk2 9 (v := .int .i64 d.order) rfl
      have y10 := cell_h hk2 10 (v := .int .i64 d.first) rfl
      have y11 := cell_h hk2 11 (v := .int .i64 d.last) rfl
      clear hk hk2
      have hPl : i < (perW d xs left).length := by rw [perW_len d HXL.out]; exact hlt
      have HPI : Hid ((perW d xs left)[i] = if matB d xs[i] = true then left[i] * d.a.toNat / 100 else 0) := perW_at d HXL.out i hlt
      have hzb := HP.out.bd _ (List.getElem_mem hlt)
      have HXI := Lib.hid (HP.out.its _ (List.getElem_mem hxi))
      have HSET := Lib.hid (fun W (h : CutS H1 w g5 (perW d xs left) left.length i W) => h.set hPl (perW_len d HXL.out))
      have HSKP := Lib.hid (fun W (h : CutS H1 w g5 (perW d xs left) left.length i W) => h.skip hPl (perW_len d HXL.out))
      have hlt2 : (i : Int) < left.length := by omega
      have hxi2 : (i : Int) < xs.length := by omega
      subst hAl hA
      clear hcl hcx
      generalize (perW d xs left)[i] = pv at *
      generalize left[i] = z at *
      generalize xs[i] = x at *
      go_upto_region 5 with (fail)
      go_still_tail 9, (by kernel_rfl)
      change wpList _ _ _ _ _ wr.drew
      go_wp2_with fail
      refine (matches_any H1 d x wr.drew J.out.inn HD.out HXI.out).mono ?_
      rintro e W4 ⟨rfl, hb4⟩
      have J2 := Lib.hid (J.out.call ((Below.refl _ wr).drew.trans hb4))
      clear y0 y1 y2 y3 y4 y5 y6 y7 y8 y9 y10 y11 x0 x1 x2 x3 c0 p0 hb4 J
      have hk2 := J2.out.inn _ _ HBD.out
      have y0 := cell_h hk2 0 (v := .string d.key) rfl
      have y1 := cell_h hk2 1 (v := .int .i64 d.kind) rfl
      have y2 := cell_h hk2 2 (v := .int .i64 d.a) rfl
      have y3 := cell_h hk2 3 (v := .int .i64 d.b) rfl
      have y4 := cell_h hk2 4 (v := .slice d.ta d.tags.length d.tc) rfl
      have y5 := cell_h hk2 5 (v := .int .i64 d.least) rfl
      have y6 := cell_h hk2 6 (v := .int .i64 d.most) rfl
      have y7 := cell_h hk2 7 (v := .string d.group) rfl
      have y8 := cell_h hk2 8 (v := .bool d.alone) rfl
      have y9 := cell_h hk2 9 (v := .int .i64 d.order) rfl
      have y10 := cell_h hk2 10 (v := .int .i64 d.first) rfl
      have y11 := cell_h hk2 11 (v := .int .i64 d.last) rfl
      clear hk2
      generalize matB d x = q at *
      cases q with
      | true =>
        have HPV : Hid (pv = z * an / 100) := HPI.out.trans (by rw [if_pos rfl, HAN.out])
        obtain ⟨k1, k2, hset⟩ := HSET.out _ J2.out
        have J3 := Lib.hid hset
        have hza : z * an ≤ 1000000000 * 100 := Nat.mul_le_mul hzb ha2
        have y2' := y2
        rw [HAN2.out] at y2'
        have m1 : IntKind.i64.wrap ((z : Int) * (an : Int)) = ((z * an : Nat) : Int) := by
          rw [Int.natCast_mul]
          refine IntWalk.i64_in _ ?_
          rw [← Int.natCast_mul]
          omega
        have m2 : Int.tdiv ((z * an : Nat) : Int) 100 = ((z * an / 100 : Nat) : Int) := rfl
        have m3 : ((z * an : Nat) : Int) / 100 = ((z * an / 100 : Nat) : Int) := by omega
        rw [← HPV.out] at m2 m3
        clear y2 HPV HPI HSET HSKP J2 hset
        generalize z * an = za at *
        go_wp2_with fail
        clear m1 m2 m3
        go_roundw
        case rel => exact ⟨i + 1, by omega, by go_num, J3⟩
        case measure => simp [intOf]; omega
      | false =>
        have J3 := Lib.hid (HSKP.out _ J2.out (HPI.out.trans (by simp)))
        clear HPI HSET HSKP J2 y0 y1 y2 y3 y4 y5 y6 y7 y8 y9 y10 y11
        go_wp2_with fail
        go_roundw
        case rel => exact ⟨i + 1, by omega, by go_num, J3⟩
        case measure => simp [intOf]; omega
    · have hie : i = left.length := by omega
      subst hie
      have hrow := J.out.row (perW_len d HXL.out) (by omega)
      have HROW := Lib.hid hrow
      have hk2 := J.out.inn _ _ HBD.out
      have y0 := cell_h hk2 0 (v := .string d.key) rfl
      have y1 := cell_h hk2 1 (v := .int .i64 d.kind) rfl
      have y2 := cell_h hk2 2 (v := .int .i64 d.a) rfl
      have y3 := cell_h hk2 3 (v := .int .i64 d.b) rfl
      have y4 := cell_h hk2 4 (v := .slice d.ta d.tags.length d.tc) rfl
      have y5 := cell_h hk2 5 (v := .int .i64 d.least) rfl
      have y6 := cell_h hk2 6 (v := .int .i64 d.most) rfl
      have y7 := cell_h hk2 7 (v := .string d.group) rfl
      have y8 := cell_h hk2 8 (v := .bool d.alone) rfl
      have y9 := cell_h hk2 9 (v := .int .i64 d.order) rfl
      have y10 := cell_h hk2 10 (v := .int .i64 d.first) rfl
      have y11 := cell_h hk2 11 (v := .int .i64 d.last) rfl
      clear hk2 hrow
      rw [HMN2.out] at y6
      have HMO := Lib.hid (most_any w.heap.size _ (perW d xs left) mn wr HROW.out J.out.bel.size (by rw [perW_len d HXL.out]; exact hsm) (fun z hz => by
        obtain ⟨i, hi, rfl⟩ := List.getElem_of_mem hz
        have h1 := HPLE.out.at_ i hi (by rw [← HPLE.out.len]; exact hi)
        have h2 := HP.out.bd _ (List.getElem_mem (show i < left.length by rw [← HPLE.out.len]; exact hi))
        omega) hmn2)
      have HBEL := Lib.hid J.out.bel
      clear J HROW
      go_wp2_with fail
      refine HMO.out.mono ?_
      rintro e w' ⟨⟨v', rfl, hO'⟩, hb'⟩
      have HO' := Lib.hid hO'
      have HB' := Lib.hid (HBEL.out.trans (hb'.mono HBEL.out.size))
      clear hO' hb' HMO
      go_wp2_with fail
      go_ret
      exact ⟨⟨_, rfl, by rw [HPE.out]; exact HO'.out⟩, HB'.out⟩
set_option maxHeartbeats 4000000 in
set_option maxRecDepth 100000 in
theorem amount_any (H : Frz) (g : Nat) (A : Option Addr) (cap : Nat) (xs : List ItD) (bship : Int) (Al : Option Addr) (capl : Nat) (left : List Nat) (ship : Nat) (d : OfD) (w : World) (hH : H.In w) (hp : PF H g A cap xs bship Al capl left ship) (hd : OfIn H d)
    (ha : 1 ≤ d.a ∧ d.a ≤ 1000000000000) (hmo : 0 ≤ d.most ∧ d.most ≤ 1000000000000) :
    Calls Tryz.prog 91 #[.pointer (some ⟨g, 0, none⟩), .agg #[.string d.key, .int .i64 d.kind, .int .i64 d.a, .int .i64 d.b, .slice d.ta d.tags.length d.tc, .int .i64 d.least, .int .i64 d.most, .string d.group, .bool d.alone, .int .i64 d.order, .int .i64 d.first, .int .i64 d.last]] w fun e w' => (∃ v, e = .returned v ∧ Orow w' w.heap.size 3 1 fN v (amtF d xs left)) ∧ Below w.heap.size w w' := by
  obtain ⟨i0, hi0, hz0, hz1, hz2⟩ := info_parts infoInt
  have hxl := hp.len
  have hsm := hp.small
  obtain ⟨H1, hl1, hb1, hin1⟩ := hH.put (.cells #[.string d.key, .int .i64 d.kind, .int .i64 d.a, .int .i64 d.b, .slice d.ta d.tags.length d.tc, .int .i64 d.least, .int .i64 d.most, .string d.group, .bool d.alone, .int .i64 d.order, .int .i64 d.first, .int .i64 d.last] 50)
  have HP := Lib.hid (hp.le hl1)
  have HBD := Lib.hid hb1
  have HD := Lib.hid (hd.le hl1)
  have HIN := Lib.hid hin1
  have HB0 := Lib.hid (new1 (w := w) (.cells #[.string d.key, .int .i64 d.kind, .int .i64 d.a, .int .i64 d.b, .slice d.ta d.tags.length d.tc, .int .i64 d.least, .int .i64 d.most, .string d.group, .bool d.alone, .int .i64 d.order, .int .i64 d.first, .int .i64 d.last] 50))
  have HXL := Lib.hid hxl
  clear hp hl1 hb1 hin1 hd hH
  obtain ⟨an, han⟩ := Int.eq_ofNat_of_zero_le (show 0 ≤ d.a by omega)
  obtain ⟨mn, hmn⟩ := Int.eq_ofNat_of_zero_le hmo.1
  have HAN : Hid (d.a.toNat = an) := by show _ = _; omega
  have HMN : Hid (d.most.toNat = mn) := by show _ = _; omega
  have HAN2 := Lib.hid han
  have HMN2 := Lib.hid hmn
  have ha2 : an ≤ 1000000000000 := by omega
  have hmn2 : mn ≤ 1000000000000 := by omega
  have HPE : Hid (amtF d xs left = if (amtW d xs left).sum = 0 then amtW d xs left else shareF (capF mn (min an (amtW d xs left).sum)) (amtW d xs left)) := by show _ = _; unfold amtF; rw [HMN.out, HAN.out]
  have HPLE := Lib.hid (amtW_le (o := d) hxl)
  have HWB : Hid (∀ z ∈ amtW d xs left, z ≤ 1000000000) := fun z hz => by
    obtain ⟨i, hi, rfl⟩ := List.getElem_of_mem hz
    have h1 := HPLE.out.at_ i hi (by rw [← HPLE.out.len]; exact hi)
    have h2 := HP.out.bd _ (List.getElem_mem (show i < left.length by rw [← HPLE.out.len]; exact hi))
    omega
  have hsb : (amtW d xs left).sum ≤ 19000000000 := by
    have h1 := Hb.sum_le HWB.out
    have h2 : (amtW d xs left).length * 1000000000 ≤ 19 * 1000000000 := Nat.mul_le_mul_right _ (by rw [amtW_len d hxl]; exact hsm)
    omega
  clear ha hmo han hmn
  go_enter Tryz.func91, Tryz.ntmps91
  go_upto_region 1 with (fail)
  generalize w.alloc (.cells #[.string d.key, .int .i64 d.kind, .int .i64 d.a, .int .i64 d.b, .slice d.ta d.tags.length d.tc, .int .i64 d.least, .int .i64 d.most, .string d.group, .bool d.alone, .int .i64 d.order, .int .i64 d.first, .int .i64 d.last] 50) = W1 at *
  have hk := HIN.out _ _ HP.out.blk
  have p2 := cell_h hk 2 (v := .slice Al left.length capl) rfl
  clear hk
  have HMK : Hid (∀ w2 : World, w2.ownsRow W1.heap.size 3 1 (.slice (some ⟨W1.heap.size, 0, none⟩) left.length left.length) left.length (madeCells (Value.int .i64 0).cells (left.length * 1)).toList → W1.grownBy w2 none → CutS H1 w W1.heap.size (amtW d xs left) left.length 0 w2) := by
    intro w2 h1 h2
    have hb2 : Below W1.heap.size W1 w2 := ⟨h2.os, h2.tape, h2.output, h2.size, fun k hk => h2.block k hk (by simp)⟩
    refine ⟨HIN.out.below hb2, HB0.out.trans (hb2.mono HB0.out.size), ?_, HB0.out.size, HIN.out.none_ (Nat.le_refl _)⟩
    have := made_int h1
    simpa using this
  go_upto_region 2 with (at_make; refine wpList_make_full _ rfl _ _ 22 rfl W1.heap.size 3 i0 (.int .i64 0) 1 Tryz.underlying22 hi0 hz0 hz1 _ _ _ _ left.length rfl rfl rfl rfl (by rw [hz2]; omega) (by simp only [maxLen]; omega) (Nat.le_refl _) ?_; intro w2 hown2 hgrow2; have J0 := Lib.hid (HMK.out _ hown2 hgrow2); clear hown2 hgrow2 HMK)
  generalize W1.heap.size = g5 at *
  clear p2
  have hk := J0.out.inn _ _ HP.out.blk
  have p2 := cell_h hk 2 (v := .slice Al left.length capl) rfl
  clear hk
  go_wp2_with fail
  clear p2
  go_loopw [6, 21] (fun s t wr => ∃ i : Nat, i ≤ left.length ∧ t = .int .i64 i ∧ s = .int .i64 (((amtW d xs left).take i).sum : Nat) ∧ Hid (CutS H1 w g5 (amtW d xs left) left.length i wr)) (fun _ t _ => left.length - (intOf t).toNat)
  case atStart => exact ⟨0, by omega, rfl, rfl, J0⟩
  case round =>
    obtain ⟨i, hi, rfl, rfl, J⟩ := hrel
    clear J0
    by_cases hlt : i < left.length
    · have hxi : i < xs.length := by have := HXL.out; omega
      obtain ⟨bl, offl, hAl, _, hcl⟩ := HP.out.lrow.at_ J.out.inn hlt (by omega)
      obtain ⟨bx, offx, hA, _, hcx⟩ := HP.out.row.at_ J.out.inn hxi (by omega)
      have c0 : wr.cell? ⟨bl, offl + i, none⟩ = some (.int .i64 (left[i] : Nat)) := by simpa [fN] using hcl 0 (by omega)
      have x0 : wr.cell? ⟨bx, offx + i * 4, none⟩ = some (.string xs[i].key) := hcx 0 (by omega)
      have x1 : wr.cell? ⟨bx, offx + i * 4 + 1, none⟩ = some (.int .i64 xs[i].cents) := hcx 1 (by omega)
      have x2 : wr.cell? ⟨bx, offx + i * 4 + 2, none⟩ = some (.int .i64 xs[i].many) := hcx 2 (by omega)
      have x3 : wr.cell? ⟨bx, offx + i * 4 + 3, none⟩ = some (.slice xs[i].ta xs[i].tags.length xs[i].tc) := hcx 3 (by omega)
      have hk := J.out.inn _ _ HP.out.blk
      have p0 := cell_h hk 0 (v := .slice A xs.length cap) rfl
      have hk2 := J.out.inn _ _ HBD.out
      have y0 := cell_h hk2 0 (v := .string d.key) rfl
      have y1 := cell_h hk2 1 (v := .int .i64 d.kind) rfl
      have y2 := cell_h hk2 2 (v := .int .i64 d.a) rfl
      have y3 := cell_h hk2 3 (v := .int .i64 d.b) rfl
      have y4 := cell_h hk2 4 (v := .slice d.ta d.tags.length d.tc) rfl
      have y5 := cell_h hk2 5 (v := .int .i64 d.least) rfl
      have y6 := cell_h hk2 6 (v := .int .i64 d.most) rfl
      have y7 := cell_h hk2 7 (v := .string d.group) rfl
      have y8 := cell_h hk2 8 (v := .bool d.alone) rfl
      have y9 := cell_h hk2 9 (v := .int .i64 d.order) rfl
      have y10 := cell_h hk2 10 (v := .int .i64 d.first) rfl
      have y11 := cell_h hk2 11 (v := .int .i64 d.last) rfl
      clear hk hk2
      have hPl : i < (amtW d xs left).length := by rw [amtW_len d HXL.out]; exact hlt
      have HPI : Hid ((amtW d xs left)[i] = if matB d xs[i] = true then left[i] else 0) := amtW_at d HXL.out i hlt
      have hzb := HP.out.bd _ (List.getElem_mem hlt)
      have HXI := Lib.hid (HP.out.its _ (List.getElem_mem hxi))
      have HSET := Lib.hid (fun W (h : CutS H1 w g5 (amtW d xs left) left.length i W) => h.set hPl (amtW_len d HXL.out))
      have HSKP := Lib.hid (fun W (h : CutS H1 w g5 (amtW d xs left) left.length i W) => h.skip hPl (amtW_len d HXL.out))
      have hlt2 : (i : Int) < left.length := by omega
      have hxi2 : (i : Int) < xs.length := by omega
      have hs := Hb.sum_take_succ hPl
      have hs2 := Hb.sum_take_le (amtW d xs left) (i + 1)
      have HS : Hid (((((amtW d xs left).take (i + 1)).sum : Nat) : Int) = (((amtW d xs left).take i).sum : Nat) + ((amtW d xs left)[i] : Int)) := by show _ = _; omega
      have hsi : ((amtW d xs left).take i).sum + (amtW d xs left)[i] ≤ 19000000000 := by omega
      clear hs hs2
      generalize ((amtW d xs left).take i).sum = s0 at *
      subst hAl hA
      clear hcl hcx
      generalize (amtW d xs left)[i] = pv at *
      generalize left[i] = z at *
      generalize xs[i] = x at *
      go_upto_region 5 with (fail)
      go_still_tail 9, (by kernel_rfl)
      change wpList _ _ _ _ _ wr.drew
      go_wp2_with fail
      refine (matches_any H1 d x wr.drew J.out.inn HD.out HXI.out).mono ?_
      rintro e W4 ⟨rfl, hb4⟩
      have J2 := Lib.hid (J.out.call ((Below.refl _ wr).drew.trans hb4))
      clear y0 y1 y2 y3 y4 y5 y6 y7 y8 y9 y10 y11 x0 x1 x2 x3 c0 p0 hb4 J
      have hk2 := J2.out.inn _ _ HBD.out
      have y0 := cell_h hk2 0 (v := .string d.key) rfl
      have y1 := cell_h hk2 1 (v := .int .i64 d.kind) rfl
      have y2 := cell_h hk2 2 (v := .int .i64 d.a) rfl
      have y3 := cell_h hk2 3 (v := .int .i64 d.b) rfl
      have y4 := cell_h hk2 4 (v := .slice d.ta d.tags.length d.tc) rfl
      have y5 := cell_h hk2 5 (v := .int .i64 d.least) rfl
      have y6 := cell_h hk2 6 (v := .int .i64 d.most) rfl
      have y7 := cell_h hk2 7 (v := .string d.group) rfl
      have y8 := cell_h hk2 8 (v := .bool d.alone) rfl
      have y9 := cell_h hk2 9 (v := .int .i64 d.order) rfl
      have y10 := cell_h hk2 10 (v := .int .i64 d.first) rfl
      have y11 := cell_h hk2 11 (v := .int .i64 d.last) rfl
      clear hk2
      generalize matB d x = q at *
      cases q with
      | true =>
        have HPV : Hid (pv = z) := HPI.out.trans (by rw [if_pos rfl])
        obtain ⟨k1, k2, hset⟩ := HSET.out _ J2.out
        have J3 := Lib.hid hset
        have hsz : s0 + z ≤ 19000000000 := by have := HPV.out; omega
        have HS3 : Hid ((s0 : Int) + (z : Int) = ((((amtW d xs left).take (i + 1)).sum : Nat) : Int)) := by show _ = _; rw [HS.out, HPV.out]
        rw [HPV.out] at J3
        clear HPV HPI HSET HSKP J2 hset hsi
        go_wp2_with fail
        go_roundw
        case rel => exact ⟨i + 1, by omega, by go_num, by rw [HS3.out], J3⟩
        case measure => simp [intOf]; omega
      | false =>
        have HPI0 : Hid (pv = 0) := HPI.out.trans (by simp)
        have J3 := Lib.hid (HSKP.out _ J2.out HPI0.out)
        clear HPI HSET HSKP J2 y0 y1 y2 y3 y4 y5 y6 y7 y8 y9 y10 y11
        go_wp2_with fail
        go_roundw
        case rel => exact ⟨i + 1, by omega, by go_num, by rw [HS.out, HPI0.out]; simp, J3⟩
        case measure => simp [intOf]; omega
    · have hie : i = left.length := by omega
      subst hie
      have hrow := J.out.row (amtW_len d HXL.out) (by omega)
      have HROW := Lib.hid hrow
      have hk2 := J.out.inn _ _ HBD.out
      have y0 := cell_h hk2 0 (v := .string d.key) rfl
      have y1 := cell_h hk2 1 (v := .int .i64 d.kind) rfl
      have y2 := cell_h hk2 2 (v := .int .i64 d.a) rfl
      have y3 := cell_h hk2 3 (v := .int .i64 d.b) rfl
      have y4 := cell_h hk2 4 (v := .slice d.ta d.tags.length d.tc) rfl
      have y5 := cell_h hk2 5 (v := .int .i64 d.least) rfl
      have y6 := cell_h hk2 6 (v := .int .i64 d.most) rfl
      have y7 := cell_h hk2 7 (v := .string d.group) rfl
      have y8 := cell_h hk2 8 (v := .bool d.alone) rfl
      have y9 := cell_h hk2 9 (v := .int .i64 d.order) rfl
      have y10 := cell_h hk2 10 (v := .int .i64 d.first) rfl
      have y11 := cell_h hk2 11 (v := .int .i64 d.last) rfl
      clear hk2 hrow
      rw [HMN2.out] at y6
      rw [HAN2.out] at y2
      have hal : (amtW d xs left).length = left.length := amtW_len d HXL.out
      rw [List.take_of_length_le (by omega)]
      obtain ⟨Aw, cw, Hw, hvw, _, q1, q2, hRw, _⟩ := Orow.freezeN HROW.out Frz.empty
      injection hvw with e1 e2 e3
      subst e1 e3
      have HSHR := Lib.hid (fun (t : Nat) (ht : t ≤ 1000000000000) (hs : 0 < (amtW d xs left).sum) => share_any Hw t (amtW d xs left) _ left.length wr (q1 (Frz.In.empty _)) hRw (by omega) HWB.out ht hs)
      rw [hal] at HSHR
      have HBEL := Lib.hid J.out.bel
      clear J q1 q2 hRw e2
      generalize hal2 : (amtW d xs left).sum = al at *
      have HSUM := Lib.hid hal2
      clear hal2
      have HTK : Hid (∀ t : Nat, t = capF mn (min an al) → (al = 0 → ∀ W, Orow W w.heap.size 3 1 fN (.slice (some ⟨g5, 0, none⟩) left.length left.length) (amtW d xs left) → Orow W w.heap.size 3 1 fN (.slice (some ⟨g5, 0, none⟩) left.length left.length) (amtF d xs left)) ∧ (al ≠ 0 → shareF t (amtW d xs left) = amtF d xs left)) := by
        rintro t rfl
        refine ⟨fun h W hO => ?_, fun h => ?_⟩
        · rw [HPE.out, if_pos h]; exact hO
        · rw [HPE.out, if_neg h]
      have hmin : ∃ t0 : Nat, t0 = min an al ∧ t0 ≤ an ∧ t0 ≤ al ∧ (t0 = an ∨ t0 = al) := ⟨_, rfl, by omega, by omega, by omega⟩
      obtain ⟨t0, ht0, t01, t02, t03⟩ := hmin
      have hcap : ∃ t1 : Nat, t1 = capF mn t0 ∧ t1 ≤ t0 ∧ ((mn = 0 ∧ t1 = t0) ∨ (mn ≠ 0 ∧ t1 ≤ mn ∧ (t1 = t0 ∨ t1 = mn))) := by
        refine ⟨_, rfl, capF_le _ _, ?_⟩
        unfold capF
        split
        · exact Or.inl ⟨‹_›, rfl⟩
        · exact Or.inr ⟨‹_›, by omega, by omega⟩
      obtain ⟨t1, ht1, t11, t12⟩ := hcap
      obtain ⟨HZ, HNZ⟩ := HTK.out t1 (by rw [ht1, ht0])
      have HZ := Lib.hid HZ
      have HNZ := Lib.hid HNZ
      have HM0 : Hid (min (an : Int) (al : Int) = (t0 : Int)) := by show _ = _; omega
      have HM1 : Hid (mn ≠ 0 → min (t0 : Int) (mn : Int) = (t1 : Int)) := fun h => by omega
      clear HTK ht0 ht1
      go_upto_region 10 with (fail)
      rw [HM0.out]
      by_cases hm : mn = 0
      · have k1 : ((mn : Int) != 0) = false := by simp; omega
        have ht : t1 = t0 := by omega
        subst ht
        clear hm t12 t03
        by_cases hz : al = 0
        · have k2 : ((al : Int) == 0) = true := by simp; omega
          have HF := Lib.hid (HZ.out hz _ HROW.out)
          clear hz HZ HNZ HM0 HM1 HSHR
          go_wp2_with fail
          go_ret
          exact ⟨⟨_, rfl, HF.out⟩, HBEL.out⟩
        · have k2 : ((al : Int) == 0) = false := by simp; omega
          have HF := Lib.hid (HNZ.out hz)
          have HS := Lib.hid (HSHR.out t1 (by omega) (by omega))
          clear hz HZ HNZ HM0 HSHR HROW
          go_wp2_with fail
          refine HS.out.mono ?_
          rintro e w' ⟨⟨v', rfl, hO'⟩, hb'⟩
          have HO' := Lib.hid (hO'.mono HBEL.out.size)
          have HB' := Lib.hid (HBEL.out.trans (hb'.mono HBEL.out.size))
          clear hO' hb' HS
          go_wp2_with fail
          go_ret
          exact ⟨⟨_, rfl, by rw [← HF.out]; exact HO'.out⟩, HB'.out⟩
      · have k1 : ((mn : Int) != 0) = true := by simp; omega
        have HM2 := Lib.hid (HM1.out hm)
        clear hm t12 t03
        go_upto_region 12 with (fail)
        rw [HM2.out]
        by_cases hz : al = 0
        · have k2 : ((al : Int) == 0) = true := by simp; omega
          have HF := Lib.hid (HZ.out hz _ HROW.out)
          clear hz HZ HNZ HM0 HM1 HSHR
          go_wp2_with fail
          go_ret
          exact ⟨⟨_, rfl, HF.out⟩, HBEL.out⟩
        · have k2 : ((al : Int) == 0) = false := by simp; omega
          have HF := Lib.hid (HNZ.out hz)
          have HS := Lib.hid (HSHR.out t1 (by omega) (by omega))
          clear hz HZ HNZ HM0 HSHR HROW
          go_wp2_with fail
          refine HS.out.mono ?_
          rintro e w' ⟨⟨v', rfl, hO'⟩, hb'⟩
          have HO' := Lib.hid (hO'.mono HBEL.out.size)
          have HB' := Lib.hid (HBEL.out.trans (hb'.mono HBEL.out.size))
          clear hO' hb' HS
          go_wp2_with fail
          go_ret
          exact ⟨⟨_, rfl, by rw [← HF.out]; exact HO'.out⟩, HB'.out⟩
end Go.Proofs.YtihcmifikbkbcaaGreat

/- slices.Repeat at one piece. -/
namespace Go.Proofs.YtihcmifikbkbcaaGreat
set_option linter.unusedVariables false
open Go.RowKit
def fPc (p : PcD) : Nat → Value
  | 0 => .int .i64 (p.item : Int)
  | _ => .int .i64 (p.cents : Int)
theorem infoPc : (Tryz.prog.info? 163).map (fun i => (i.zero, i.size, i.bytes)) = some (some (.agg #[.int .i64 0, .int .i64 0]), 2, 16) := by kernel_rfl
theorem sizePc : (Tryz.prog.info? 163).map (·.size) = some 2 := by kernel_rfl
theorem fPc_one (p : PcD) (m : Nat) : (fPc p m).oneCell' = true := by
  match m with
  | 0 => rfl
  | m + 1 => rfl
theorem cellsPc_one (l : List PcD) : ∀ v ∈ cellsOf 2 fPc l, v.oneCell' = true := by
  intro v hv
  unfold cellsOf at hv
  obtain ⟨d, _, hv⟩ := List.mem_flatMap.1 hv
  obtain ⟨m, _, rfl⟩ := List.mem_map.1 hv
  exact fPc_one d m
theorem made_pc {w : World} {B g n : Nat} (h : w.ownsRow B 163 2 (.slice (some ⟨g, 0, none⟩) n n) n (madeCells (Value.agg #[.int .i64 0, .int .i64 0]).cells (n * 2)).toList) : KBlk w g 163 2 fPc (List.replicate n ⟨0, 0⟩) [] := by
  rcases h.2 with ⟨h1, _⟩ | ⟨g', cap, cur, hv, hB, hh, hle, hm, hs, ht⟩
  · cases h1
  · injection hv with e1 e2 e3
    injection e1 with e1
    injection e1 with e1
    subst e1 e3
    unfold KBlk
    rw [hh]
    have h2 : cur.toList = (madeCells (Value.agg #[.int .i64 0, .int .i64 0]).cells (n * 2)).toList := by
      rw [← ht, List.take_of_length_le (by simp [hs])]
    have h3 : (madeCells (Value.agg #[.int .i64 0, .int .i64 0]).cells (n * 2)).toList = List.replicate (n * 2) (.int .i64 0) := by
      apply List.ext_getElem
      · simp [size_madeCells]
      · intro i h1 h2
        have h4 : (Value.agg #[.int .i64 0, .int .i64 0]).cells = #[.int .i64 0, .int .i64 0] := rfl
        simp only [madeCells, h4, Array.getElem_toList, Array.getElem_map, Array.getElem_range, List.getElem_replicate]
        have : i % 2 = 0 ∨ i % 2 = 1 := by omega
        rcases this with h | h <;> simp [h]
    rw [h3] at h2
    have h5 : cellsOf 2 fPc (List.replicate n ⟨0, 0⟩) = List.replicate (n * 2) (.int .i64 0) := by
      clear h3 h2 h hh hs ht hle hm e2
      unfold cellsOf
      induction n with
      | zero => rfl
      | succ n ih =>
        rw [List.replicate_succ, List.flatMap_cons, ih, show (n + 1) * 2 = n * 2 + 1 + 1 from by omega, List.replicate_succ, List.replicate_succ]
        rfl
    rw [h5, List.append_nil, ← h2]
/-- What is so in the loop. -/
structure RepS (w : World) (g m n : Nat) (p : PcD) (wr : World) : Prop where
  bel : Below w.heap.size w wr
  blk : KBlk wr g 163 2 fPc (List.replicate n p ++ List.replicate (m - n) ⟨0, 0⟩) []
  ge : w.heap.size ≤ g
theorem rep_step {n m c : Nat} (p z : PcD) (hc : c = Nat.min n (m - n)) (hn : n ≤ m) : (List.replicate n p ++ List.replicate (m - n) z).take n ++ List.replicate c p ++ (List.replicate n p ++ List.replicate (m - n) z).drop (n + c) = List.replicate (n + c) p ++ List.replicate (m - (n + c)) z := by
  have hc2 : c ≤ m - n := by rw [hc]; exact Nat.min_le_right _ _
  rw [List.take_left' (by simp), List.drop_append]
  simp only [List.length_replicate]
  rw [List.drop_of_length_le (by simp), Nat.add_sub_cancel_left, List.drop_replicate, List.nil_append, List.replicate_append_replicate, show m - n - c = m - (n + c) from by omega]
def φRe (g m n c : Nat) (i : Nat) (v : Value) (_ : World) : Prop :=
  match i with
  | 0 => v = .int .i64 (n : Int)
  | 1 => v = .slice (some ⟨g, 0, none⟩) m m
  | 2 => v = .int .i64 (n : Int)
  | 3 => v = .slice (some ⟨g, n * 2, none⟩) (m - n) (m - n)
  | 4 => v = .slice (some ⟨g, 0, none⟩) m m
  | 5 => v = .int .i64 (n : Int)
  | 6 => v = .slice (some ⟨g, 0, none⟩) n m
  | 7 => v = .int .i64 (c : Int)
  | _ => True
/-- The copy has run, or it has not. -/
def JRe (W0 w : World) (g m n : Nat) (p : PcD) (L : Array Bool) (_ : Act) (W : World) : Prop := (L.getD 7 false = false → W = W0) ∧ (L.getD 7 false = true → RepS w g m n p W)
theorem JRe.step {W0 w : World} {g m n : Nat} {p : PcD} {L : Array Bool} {a a' : Act} {W : World} (h : JRe W0 w g m n p L a W) {i : Nat} (hi : i ≠ 7) (b : Unit) : JRe W0 w g m n p (L.setIfInBounds i true) a' W := by
  unfold JRe at *
  rw [getD_set_ne false hi]
  exact h
set_option maxHeartbeats 4000000 in
set_option maxRecDepth 100000 in
theorem repeat_any (b m : Nat) (p : PcD) (w : World) (hb : w.heap[b]? = some (.cells #[.int .i64 (p.item : Int), .int .i64 (p.cents : Int)] 163 (0, 0))) (hm1 : 1 ≤ m) (hm2 : m ≤ 100) :
    Calls Tryz.prog 112 #[.slice (some ⟨b, 0, none⟩) 1 1, .int .i64 (m : Int)] w fun e w' => (∃ v, e = .returned v ∧ Orow w' w.heap.size 163 2 fPc v (List.replicate m p)) ∧ Below w.heap.size w w' := by
  obtain ⟨i0, hi0, hz0, hz1, hz2⟩ := info_parts infoPc
  have HBB := Lib.hid hb
  have HMU := Lib.hid (fun W => Tryz.bits_Mul 1 m (by omega) (by omega) W)
  have e1 : 1 * m / 18446744073709551616 = 0 := by omega
  have e2 : 1 * m % 18446744073709551616 = m := by omega
  rw [e1, e2] at HMU
  have hbl : b < w.heap.size := lt_of_heap hb
  have HMK : Hid (∀ w2 : World, w2.ownsRow w.heap.size 163 2 (.slice (some ⟨w.heap.size, 0, none⟩) m m) m (madeCells (Value.agg #[.int .i64 0, .int .i64 0]).cells (m * 2)).toList → w.grownBy w2 none → RepS w w.heap.size m 0 p w2 ∧ w2.heap[b]? = some (.cells #[.int .i64 (p.item : Int), .int .i64 (p.cents : Int)] 163 (0, 0))) := by
    intro w2 h1 h2
    have hb2 : Below w.heap.size w w2 := ⟨h2.os, h2.tape, h2.output, h2.size, fun k hk => h2.block k hk (by simp)⟩
    exact ⟨⟨hb2, by simpa using made_pc h1, Nat.le_refl _⟩, (hb2.block b hbl).trans HBB.out⟩
  clear hb e1 e2
  go_enter Tryz.func112, Tryz.ntmps112
  go_wp2_with fail
  refine (HMU.out _).mono ?_
  rintro e w' ⟨rfl, hw'⟩
  obtain rfl := hw'.symm
  clear HMU hw'
  go_upto_region 7 with (at_make; refine wpList_make_full _ rfl _ _ 160 rfl w.heap.size 163 i0 (.agg #[.int .i64 0, .int .i64 0]) 2 Tryz.underlying160 hi0 hz0 hz1 _ _ _ _ m rfl rfl rfl rfl (by rw [hz2]; omega) (by simp only [maxLen]; omega) (Nat.le_refl _) ?_; intro w2 hown2 hgrow2; obtain ⟨hj0, hbb⟩ := HMK.out _ hown2 hgrow2; have J0 := Lib.hid hj0; have HB2 := Lib.hid hbb; clear hown2 hgrow2 HMK hj0 hbb)
  have HSRC : Hid (∀ j v, (cellsOf 2 fPc [p])[j]? = some v → w2.cell? ((⟨b, 0, none⟩ : Addr).add j) = some v) := by
    intro j v hv
    rw [Addr.add_lit]
    match j with
    | 0 => exact (cell_h HB2.out 0 (v := .int .i64 (p.item : Int)) rfl).trans hv
    | 1 => exact (cell_h HB2.out 1 (v := .int .i64 (p.cents : Int)) rfl).trans hv
    | j + 2 => simp [cellsOf, List.range_succ] at hv
  have HFST : Hid (∀ w3 : World, KBlk w3 w.heap.size 163 2 fPc ((List.replicate 0 p ++ List.replicate (m - 0) (⟨0, 0⟩ : PcD)).take 0 ++ [p] ++ (List.replicate 0 p ++ List.replicate (m - 0) (⟨0, 0⟩ : PcD)).drop (0 + [p].length)) [] → w2.grownBy w3 (some w.heap.size) → RepS w w.heap.size m 1 p w3) := by
    intro w3 h1 h2
    refine ⟨J0.out.bel.grown h2 J0.out.bel.size (fun k hk => by injection hk with hk; omega), ?_, Nat.le_refl _⟩
    simpa using h1
  have hsl : w.heap.size ≤ w.heap.size := Nat.le_refl _
  generalize w.heap.size = g at *
  have HN1 : Hid ([p].length = Nat.min 1 m) := by show 1 = min 1 m; omega
  have HF1 : Hid (0 + [p].length ≤ (List.replicate 0 p ++ List.replicate (m - 0) (⟨0, 0⟩ : PcD)).length) := by show _ ≤ _; simp; omega
  go_wp2_with (with_reducible refine wpList_copyK (k := 2) (f := fPc) (es := [p]) rfl (.tmp 31) (.tmp 32) 160 160 rfl 163 Tryz.underlying160 sizePc 0 m m ⟨b, 0, none⟩ 1 1 rfl rfl J0.out.blk HN1.out HSRC.out HF1.out (cellsPc_one _) ?_; intro w3 hk3 hg3; have J1 := Lib.hid (HFST.out w3 hk3 hg3); clear hk3 hg3 HFST HSRC HN1 HF1)
  clear J0 HB2 HBB
  go_loopw [8] (fun t wr => ∃ n : Nat, 1 ≤ n ∧ n ≤ m ∧ t = .int .i64 n ∧ Hid (RepS w g m n p wr)) (fun t _ => m - (intOf t).toNat)
  case atStart => exact ⟨1, by omega, by omega, rfl, J1⟩
  case round =>
    obtain ⟨n, hn1, hn2, rfl, J⟩ := hrel
    clear J1
    by_cases hlt : n < m
    · obtain ⟨c, hc⟩ : ∃ c, c = Nat.min n (m - n) := ⟨_, rfl⟩
      have hc2 : 1 ≤ c ∧ c ≤ m - n ∧ c ≤ n := by have hc' : c = min n (m - n) := hc; omega
      obtain ⟨hc2, hc3, hc4⟩ := hc2
      have HSRC : Hid (∀ j v, (cellsOf 2 fPc (List.replicate c p))[j]? = some v → wr.drew.cell? ((⟨g, 0, none⟩ : Addr).add j) = some v) := by
        intro j v hv
        rw [Addr.add_lit]
        have hj : j < c * 2 := by have := (List.getElem?_eq_some_iff.1 hv).1; rw [cellsOf_len] at this; simpa using this
        have hl : (List.replicate n p ++ List.replicate (m - n) (⟨0, 0⟩ : PcD)).length = m := by simp; omega
        have h1 := cellsOf_get 2 fPc (List.replicate c p) (j / 2) (j % 2) (by simp; omega) (Nat.mod_lt _ (by omega))
        rw [Nat.div_add_mod' j 2, hv] at h1
        have h2 := J.out.blk.cell (j / 2) (j % 2) (by rw [hl]; omega) (Nat.mod_lt _ (by omega))
        rw [Nat.div_add_mod' j 2] at h2
        show wr.cell? ⟨g, 0 + j, none⟩ = some v
        rw [Nat.zero_add, h2, List.getElem_append_left (by simp; omega)]
        simp only [List.getElem_replicate] at h1 ⊢
        exact h1.symm
      have HNX : Hid (∀ w3 : World, KBlk w3 g 163 2 fPc ((List.replicate n p ++ List.replicate (m - n) (⟨0, 0⟩ : PcD)).take n ++ List.replicate c p ++ (List.replicate n p ++ List.replicate (m - n) (⟨0, 0⟩ : PcD)).drop (n + (List.replicate c p).length)) [] → wr.drew.grownBy w3 (some g) → RepS w g m (n + c) p w3) := by
        intro w3 h1 h2
        have hb : Below w.heap.size w wr.drew := J.out.bel.drew
        refine ⟨hb.grown h2 hb.size (fun k hk => by injection hk with hk; have := J.out.ge; omega), ?_, J.out.ge⟩
        rw [List.length_replicate, rep_step p ⟨0, 0⟩ hc hn2] at h1
        exact h1
      have HK : Hid (KBlk wr.drew g 163 2 fPc (List.replicate n p ++ List.replicate (m - n) (⟨0, 0⟩ : PcD)) []) := J.out.blk
      have HN2 : Hid ((List.replicate c p).length = Nat.min n (m - n)) := by show _ = _; rw [List.length_replicate, hc]
      have HF2 : Hid (n + (List.replicate c p).length ≤ (List.replicate n p ++ List.replicate (m - n) (⟨0, 0⟩ : PcD)).length) := by show _ ≤ _; simp; omega
      have hlt2 : (n : Int) < (m : Int) := by omega
      have e1 : IntKind.i64.wrap ((n : Int) + (c : Int)) = ((n + c : Nat) : Int) := by rw [show (n : Int) + (c : Int) = ((n + c : Nat) : Int) from by omega]; exact IntWalk.i64_in _ (by omega)
      have E2 : Hid ((n : Int) + (c : Int) = ((n + c : Nat) : Int)) := by show _ = _; omega
      have hnc : n + c ≤ m := by omega
      have hmn : ¬ m = n := by omega
      clear hc J
      go_wp2_with fail
      refine wp_region_concV 8 48 (φRe g m n c) (JRe wr.drew w g m (n + c) p) (fun _ _ => True) (by kernel_rfl) (by kernel_rfl) (by rfl) ⟨fun _ => rfl, fun h => (by rw [getD_replicate_false] at h; cases h)⟩ (fun i x w w' _ _ h => h) (fun i x w hi e _ => absurd e (by have hcs : i = 0 ∨ i = 1 ∨ i = 2 ∨ i = 3 ∨ i = 4 ∨ i = 5 ∨ i = 6 ∨ i = 7 := (by omega); rcases hcs with rfl | rfl | rfl | rfl | rfl | rfl | rfl | rfl <;> decide)) ?_ ?_
      · intro i o hi8 ho a W2 L hr hsN hLs hJ hkn
        have hcs : i = 0 ∨ i = 1 ∨ i = 2 ∨ i = 3 ∨ i = 4 ∨ i = 5 ∨ i = 6 ∨ i = 7 := by omega
        rcases hcs with rfl | rfl | rfl | rfl | rfl | rfl | rfl | rfl
        · obtain rfl := Option.some.inj ho
          refine OpV.mono (R := fun v w' => φRe g m n c 0 v w' ∧ w' = W2) ?_ (fun v w' h => ⟨h.1, h.2 ▸ hJ.step (by decide) (), trivial⟩)
          exact ⟨hkn 8 (by decide), rfl⟩
        · obtain rfl := Option.some.inj ho
          refine OpV.mono (R := fun v w' => φRe g m n c 1 v w' ∧ w' = W2) ?_ (fun v w' h => ⟨h.1, h.2 ▸ hJ.step (by decide) (), trivial⟩)
          exact ⟨hkn 7 (by decide), rfl⟩
        · obtain rfl := Option.some.inj ho
          refine OpV.mono (R := fun v w' => φRe g m n c 2 v w' ∧ w' = W2) ?_ (fun v w' h => ⟨h.1, h.2 ▸ hJ.step (by decide) (), trivial⟩)
          exact ⟨hkn 8 (by decide), rfl⟩
        · obtain rfl := Option.some.inj ho
          refine OpV.mono (R := fun v w' => φRe g m n c 3 v w' ∧ w' = W2) ?_ (fun v w' h => ⟨h.1, h.2 ▸ hJ.step (by decide) (), trivial⟩)
          have h0 := slotv (hkn 39 (by decide) : a.tmps.getD 39 undef = .slice (some ⟨g, 0, none⟩) m m)
          have h1 := slotv (hkn 40 (by decide) : a.tmps.getD 40 undef = .int .i64 (n : Int))
          clear hkn ho
          simp only [OpV, execOp]
          simp [go_sem, h0, h1, hn2, hmn]
          first | exact ⟨rfl, rfl⟩ | exact rfl
        · obtain rfl := Option.some.inj ho
          refine OpV.mono (R := fun v w' => φRe g m n c 4 v w' ∧ w' = W2) ?_ (fun v w' h => ⟨h.1, h.2 ▸ hJ.step (by decide) (), trivial⟩)
          exact ⟨hkn 7 (by decide), rfl⟩
        · obtain rfl := Option.some.inj ho
          refine OpV.mono (R := fun v w' => φRe g m n c 5 v w' ∧ w' = W2) ?_ (fun v w' h => ⟨h.1, h.2 ▸ hJ.step (by decide) (), trivial⟩)
          exact ⟨hkn 8 (by decide), rfl⟩
        · obtain rfl := Option.some.inj ho
          refine OpV.mono (R := fun v w' => φRe g m n c 6 v w' ∧ w' = W2) ?_ (fun v w' h => ⟨h.1, h.2 ▸ hJ.step (by decide) (), trivial⟩)
          have h0 := slotv (hkn 42 (by decide) : a.tmps.getD 42 undef = .slice (some ⟨g, 0, none⟩) m m)
          have h1 := slotv (hkn 43 (by decide) : a.tmps.getD 43 undef = .int .i64 (n : Int))
          clear hkn ho
          simp only [OpV, execOp]
          simp [go_sem, h0, h1, hn2]
          first | exact ⟨rfl, rfl⟩ | exact rfl
        · obtain rfl := Option.some.inj ho
          have hnot := ready_not hr (by show (7 : Nat) < L.size; rw [hLs]; decide)
          obtain rfl := hJ.1 hnot
          have h0 := slotv (hkn 41 (by decide) : a.tmps.getD 41 undef = .slice (some ⟨g, n * 2, none⟩) (m - n) (m - n))
          have h1 := slotv (hkn 44 (by decide) : a.tmps.getD 44 undef = .slice (some ⟨g, 0, none⟩) n m)
          refine OpV.copyK (k := 2) (f := fPc) (es := List.replicate c p) (.tmp 41) (.tmp 44) 160 160 rfl 163 Tryz.underlying160 sizePc n (m - n) (m - n) ⟨g, 0, none⟩ n m (by simpa [Act.eval] using h0) (by simpa [Act.eval] using h1) HK.out HN2.out HSRC.out HF2.out (cellsPc_one _) ?_
          intro w3 hk3 hg3
          refine ⟨by rw [List.length_replicate]; rfl, ⟨fun h => ?_, fun _ => HNX.out w3 hk3 hg3⟩, trivial⟩
          rw [getD_set_self (by show (7 : Nat) < L.size; rw [hLs]; decide)] at h
          cases h
      · intro yv W9 L9 hL9 hW9 hgt hφ
        have J3 := Lib.hid (hW9.2 (hL9 7 (by decide)))
        have hφ0 : yv 0 = .int .i64 (n : Int) := by
          rcases hφ 0 (by decide) with h | h
          · exact h
          · exact absurd h.1 (by decide)
        have hφ7 : yv 7 = .int .i64 (c : Int) := by
          rcases hφ 7 (by decide) with h | h
          · exact h
          · exact absurd h.1 (by decide)
        clear hW9 hgt hφ hL9 HNX HSRC HN2 HF2 HK
        simp only [List.drop_succ_cons, List.drop_zero, List.take_succ_cons, List.take_zero, putAll, Nat.reduceAdd, hφ0, hφ7]
        clear hφ0 hφ7
        go_wp2_with fail
        clear e1
        go_roundw
        case rel => exact ⟨n + c, by omega, by omega, by rw [E2.out], J3⟩
        case measure => simp [intOf]; omega
    · have hie : n = m := by omega
      subst hie
      have hF : Hid (Orow wr w.heap.size 163 2 fPc (.slice (some ⟨g, 0, none⟩) n n) (List.replicate n p)) := by
        have h1 := J.out.blk
        rw [Nat.sub_self, List.replicate_zero, List.append_nil] at h1
        have := Orow.of_blk (B := w.heap.size) (cap := n) h1 J.out.ge (by simp only [maxLen]; omega) (by simp) (by simp)
        show Orow _ _ _ _ _ _ _
        simpa using this
      go_wp2_with fail
      go_ret
      exact ⟨⟨_, rfl, hF.out⟩, J.out.bel⟩
end Go.Proofs.YtihcmifikbkbcaaGreat

/- What free pieces take from items. -/
namespace Go.Proofs.YtihcmifikbkbcaaGreat
set_option linter.unusedVariables false
open Go.RowKit
theorem cmpI_nat (a b : Nat) : cmpI (a : Int) (b : Int) = if a < b then -1 else if a = b then 0 else 1 := by unfold cmpI; split <;> split <;> (try split) <;> (try split) <;> omega
set_option maxHeartbeats 1000000 in
theorem free1_any (x y : PcD) (w : World) :
    Calls Tryz.prog 114 #[.agg #[.int .i64 (x.item : Int), .int .i64 (x.cents : Int)], .agg #[.int .i64 (y.item : Int), .int .i64 (y.cents : Int)]] w fun e w' => e = .returned (.int .i64 (cmpP x y)) ∧ Below w.heap.size w w' := by
  have HV : Hid (cmpP x y = cmpI (y.cents : Int) (x.cents : Int)) := by show _ = _; rw [cmpI_nat]; rfl
  have HB := Lib.hid (new2 (w := w) (.cells #[.int .i64 (x.item : Int), .int .i64 (x.cents : Int)] 163) (.cells #[.int .i64 (y.item : Int), .int .i64 (y.cents : Int)] 163))
  go_enter Tryz.func114, Tryz.ntmps114
  go_wp2_with fail
  refine (cmpInt_any _ _ _).mono ?_
  rintro e w' ⟨rfl, rfl⟩
  generalize cmpI (y.cents : Int) (x.cents : Int) = q at HV
  go_wp2_with fail
  go_ret
  exact ⟨ret_int HV.out.symm, HB.out⟩
/-- What is so at the head of the first loop. -/
structure FrS (H : Frz) (w : World) (l : List PcD) (v : Value) (wr : World) : Prop where
  inn : H.In wr
  bel : Below w.heap.size w wr
  row : Orow wr (w.heap.size + 1) 163 2 fPc v l
  no : ∀ b, w.heap.size + 1 ≤ b → H b = none
  sz : w.heap.size + 1 ≤ wr.heap.size
theorem FrS.call {H : Frz} {w wr W' : World} {l : List PcD} {v : Value} (h : FrS H w l v wr) (hb : Below wr.heap.size wr W') : FrS H w l v W' :=
  ⟨h.inn.below hb, h.bel.trans (hb.mono h.bel.size), h.row.below hb, h.no, Nat.le_trans h.sz hb.size⟩
def tsFr (v : Value) (B n m : Nat) (x y : List Value) : List RowT := [⟨17, 42, v, B, 163, 2, n, x, m, y⟩]
def φFr (S : Nat) (v5 lv : Value) (g g7 bl off k z m q : Nat) (i : Nat) (v : Value) (w : World) : Prop :=
  match i with
  | 0 => v = v5
  | 1 => v = .int .i64 (k : Nat)
  | 2 => v = .pointer (some ⟨g, 0, none⟩)
  | 3 => v = .pointer (some ⟨g, 0, none⟩)
  | 4 => v = .pointer (some ⟨g, 2, none⟩)
  | 5 => v = lv
  | 6 => v = .int .i64 (k : Nat)
  | 7 => v = .pointer (some ⟨bl, off + k, none⟩)
  | 8 => v = .int .i64 (z : Nat)
  | 9 => v = .pointer (some ⟨g7, 2, none⟩)
  | 10 => v = .int .i64 (m : Nat)
  | 11 => v = .int .i64 (q : Nat)
  | 12 => v = .agg #[.int .i64 (k : Nat), .int .i64 (q : Nat)]
  | 13 => TmpS S v #[.int .i64 (k : Nat), .int .i64 (q : Nat)] 163 w
  | 14 => v = .pointer (some ⟨g7, 2, none⟩)
  | 15 => v = .int .i64 (m : Nat)
  | 16 => Orow w S 163 2 fPc v (List.replicate m ⟨k, q⟩)
  | 17 => True
  | _ => True
theorem φFr_mono {W0 : World} {v5 lv : Value} {g g7 bl off k z m q : Nat} (i : Nat) (x : Value) (w w' : World) (e : RowsE W0 w w') (h : φFr W0.heap.size v5 lv g g7 bl off k z m q i x w) : φFr W0.heap.size v5 lv g g7 bl off k z m q i x w' := by
  match i, h with
  | 0, h => exact h
  | 1, h => exact h
  | 2, h => exact h
  | 3, h => exact h
  | 4, h => exact h
  | 5, h => exact h
  | 6, h => exact h
  | 7, h => exact h
  | 8, h => exact h
  | 9, h => exact h
  | 10, h => exact h
  | 11, h => exact h
  | 12, h => exact h
  | 13, h => exact TmpS.mono e h
  | 14, h => exact h
  | 15, h => exact h
  | 16, h => exact Orow.rowsE e h
  | 17, h => exact h
  | i + 18, h => exact trivial
theorem FrS.next {H : Frz} {w W0 W9 : World} {l : List PcD} {v : Value} (h : FrS H w l v W0) {m : Nat} {p : PcD} {L : Array Bool} {a : Act}
    (hW : RowsJ W0 (tsFr v (w.heap.size + 1) l.length (l.length + m) (cellsOf 2 fPc l) (cellsOf 2 fPc (l ++ List.replicate m p))) L a W9) (h17 : L.getD 17 false = true) {z : Value} (e : a.tmps.getD 42 undef = z) : FrS H w (l ++ List.replicate m p) z W9 := by
  have hge : ∀ t ∈ tsFr v (w.heap.size + 1) l.length (l.length + m) (cellsOf 2 fPc l) (cellsOf 2 fPc (l ++ List.replicate m p)), ∀ g, t.v.ownBlock = some g → w.heap.size + 1 ≤ g := by
    intro t ht g hg
    simp only [tsFr, List.mem_cons, List.not_mem_nil, or_false] at ht
    subst ht
    exact (Orow.lt h.row hg).1
  have ho := hW.own ⟨17, 42, v, w.heap.size + 1, 163, 2, l.length, cellsOf 2 fPc l, l.length + m, cellsOf 2 fPc (l ++ List.replicate m p)⟩ (by simp [tsFr])
  unfold RowT.own at ho
  simp only [h17, e, if_true] at ho
  have hb := hW.below (B := w.heap.size) (by have := h.sz; omega) (fun t ht g hg => by have := hge t ht g hg; omega)
  refine ⟨hW.inn h.inn (fun t ht g hg => h.no g (hge t ht g hg)), h.bel.trans hb, ?_, h.no, Nat.le_trans h.sz hW.size⟩
  show World.ownsRow _ _ _ _ _ _ _
  rw [show (l ++ List.replicate m p).length = l.length + m from by simp]
  exact ho
/-- What is so in the second loop. -/
structure FrT (H : Frz) (w : World) (g8 : Nat) (out : List Nat) (wr : World) : Prop where
  inn : H.In wr
  bel : Below w.heap.size w wr
  blk : KBlk wr g8 3 1 fN out []
  ge : w.heap.size ≤ g8
  no : H g8 = none
theorem FrT.call {H : Frz} {w wr W' : World} {g8 : Nat} {out : List Nat} (h : FrT H w g8 out wr) (hb : Below wr.heap.size wr W') : FrT H w g8 out W' := ⟨h.inn.below hb, h.bel.trans (hb.mono h.bel.size), h.blk.keep hb, h.ge, h.no⟩
theorem FrT.set {H : Frz} {w wr : World} {g8 : Nat} {out : List Nat} (h : FrT H w g8 out wr) {i : Nat} (hi : i < out.length) (x : Nat) : FrT H w g8 (out.set i x) (wr.setCell ⟨g8, i, none⟩ (.int .i64 (x : Int))) :=
  ⟨h.inn.setCell h.no _, h.bel.setCell h.ge _, h.blk.set1 i hi x, h.ge, h.no⟩
theorem free_next {a b k : Nat} {S : List PcD} {off : Nat} {out : List Nat} (h1 : 1 ≤ a) (h : a + b ≤ S.length - off) (hk : S.length - off ≤ k) :
    ∃ k', k = k' + 1 ∧ freeL a b k (S.drop off) out = freeL a b k' (S.drop (off + (a + b))) (addP (((S.drop off).drop a).take b) out) := by
  cases k with
  | zero => omega
  | succ k => exact ⟨k, rfl, by rw [freeL_go (by rw [List.length_drop]; exact h), List.drop_drop]⟩
set_option maxHeartbeats 8000000 in
set_option maxRecDepth 100000 in
theorem free_any (H : Frz) (g : Nat) (A : Option Addr) (cap : Nat) (xs : List ItD) (bship : Int) (Al : Option Addr) (capl : Nat) (left : List Nat) (ship : Nat) (d : OfD) (w : World) (hH : H.In w) (hp : PF H g A cap xs bship Al capl left ship) (hd : OfIn H d) (hbd : ItBd xs)
    (ha : 1 ≤ d.a ∧ d.a ≤ 20) (hb : 1 ≤ d.b ∧ d.b ≤ 20) (hmo : 0 ≤ d.most ∧ d.most ≤ 1000000000000) :
    Calls Tryz.prog 92 #[.pointer (some ⟨g, 0, none⟩), .agg #[.string d.key, .int .i64 d.kind, .int .i64 d.a, .int .i64 d.b, .slice d.ta d.tags.length d.tc, .int .i64 d.least, .int .i64 d.most, .string d.group, .bool d.alone, .int .i64 d.order, .int .i64 d.first, .int .i64 d.last]] w fun e w' => (∃ v, e = .returned v ∧ Orow w' w.heap.size 3 1 fN v (freeF d xs left)) ∧ Below w.heap.size w w' := by
  obtain ⟨i0, hi0, hz0, hz1, hz2⟩ := info_parts infoInt
  obtain ⟨ip, hip, hp0, hp1, hp2⟩ := info_parts infoPc
  have hxl := hp.len
  have hsm := hp.small
  obtain ⟨H1, hH1, hl1, hb1, hin1, hno⟩ : ∃ H1 : Frz, H1 = H.add w.heap.size (.cells #[.string d.key, .int .i64 d.kind, .int .i64 d.a, .int .i64 d.b, .slice d.ta d.tags.length d.tc, .int .i64 d.least, .int .i64 d.most, .string d.group, .bool d.alone, .int .i64 d.order, .int .i64 d.first, .int .i64 d.last] 50) ∧ H.Le H1 ∧ H1 w.heap.size = some (.cells #[.string d.key, .int .i64 d.kind, .int .i64 d.a, .int .i64 d.b, .slice d.ta d.tags.length d.tc, .int .i64 d.least, .int .i64 d.most, .string d.group, .bool d.alone, .int .i64 d.order, .int .i64 d.first, .int .i64 d.last] 50 (0, 0)) ∧ H1.In (w.alloc (.cells #[.string d.key, .int .i64 d.kind, .int .i64 d.a, .int .i64 d.b, .slice d.ta d.tags.length d.tc, .int .i64 d.least, .int .i64 d.most, .string d.group, .bool d.alone, .int .i64 d.order, .int .i64 d.first, .int .i64 d.last] 50)) ∧ ∀ b, w.heap.size + 1 ≤ b → H1 b = none :=
    ⟨_, rfl, Frz.le_add (hH.none_ (Nat.le_refl _)), Frz.add_at _ _ _, (hH.alloc _).add (heap_at rfl), fun b hb => by rw [Frz.add_other (by omega)]; exact hH.none_ (by omega)⟩
  have HP := Lib.hid (hp.le hl1)
  have HBD := Lib.hid hb1
  have HD := Lib.hid (hd.le hl1)
  have HB0 := Lib.hid (new1 (w := w) (.cells #[.string d.key, .int .i64 d.kind, .int .i64 d.a, .int .i64 d.b, .slice d.ta d.tags.length d.tc, .int .i64 d.least, .int .i64 d.most, .string d.group, .bool d.alone, .int .i64 d.order, .int .i64 d.first, .int .i64 d.last] 50))
  have HXL := Lib.hid hxl
  have HIB := Lib.hid hbd
  have HFR0 : Hid (FrS H1 w (pcs d 0 (xs.take 0) (left.take 0)) (.slice none 0 0) (w.alloc (.cells #[.string d.key, .int .i64 d.kind, .int .i64 d.a, .int .i64 d.b, .slice d.ta d.tags.length d.tc, .int .i64 d.least, .int .i64 d.most, .string d.group, .bool d.alone, .int .i64 d.order, .int .i64 d.first, .int .i64 d.last] 50))) := ⟨hin1, new1 _, Orow.nil _ _ _ _ _, hno, by simp⟩
  clear hp hl1 hb1 hin1 hd hH hH1 hno hbd
  obtain ⟨an, han⟩ := Int.eq_ofNat_of_zero_le (show 0 ≤ d.a by omega)
  obtain ⟨bn, hbn⟩ := Int.eq_ofNat_of_zero_le (show 0 ≤ d.b by omega)
  obtain ⟨mn, hmn⟩ := Int.eq_ofNat_of_zero_le hmo.1
  have HAN : Hid (d.a.toNat = an) := by show _ = _; omega
  have HBN0 : Hid (d.b.toNat = bn) := by show _ = _; omega
  have HMN : Hid (d.most.toNat = mn) := by show _ = _; omega
  have HAN2 := Lib.hid han
  have HBN2 := Lib.hid hbn
  have HMN2 := Lib.hid hmn
  have ha1 : 1 ≤ an ∧ an ≤ 20 := by omega
  have hb1 : 1 ≤ bn ∧ bn ≤ 20 := by omega
  have hmn2 : mn ≤ 1000000000000 := by omega
  clear ha hb hmo han hbn hmn
  go_enter Tryz.func92, Tryz.ntmps92
  go_upto_region 2 with (fail)
  generalize w.alloc (.cells #[.string d.key, .int .i64 d.kind, .int .i64 d.a, .int .i64 d.b, .slice d.ta d.tags.length d.tc, .int .i64 d.least, .int .i64 d.most, .string d.group, .bool d.alone, .int .i64 d.order, .int .i64 d.first, .int .i64 d.last] 50) = W1 at *
  have hk := HFR0.out.inn _ _ HP.out.blk
  have p0 := cell_h hk 0 (v := .slice A xs.length cap) rfl
  clear hk
  go_wp2_with fail
  clear p0
  go_loopw [5, 17] (fun v t wr => ∃ i : Nat, i ≤ xs.length ∧ t = .int .i64 i ∧ Hid (FrS H1 w (pcs d 0 (xs.take i) (left.take i)) v wr)) (fun _ t _ => xs.length - (intOf t).toNat)
  case atStart => exact ⟨0, by omega, rfl, HFR0⟩
  case round =>
    obtain ⟨i, hi, rfl, J⟩ := hrel
    clear HFR0
    generalize u5 = v5 at *
    by_cases hlt : i < xs.length
    · have hli : i < left.length := by have := HXL.out; omega
      obtain ⟨bl, offl, hAl, _, hcl⟩ := HP.out.lrow.at_ J.out.inn hli (by omega)
      obtain ⟨bx, offx, hA, _, hcx⟩ := HP.out.row.at_ J.out.inn hlt (by omega)
      have x0 : wr.cell? ⟨bx, offx + i * 4, none⟩ = some (.string xs[i].key) := hcx 0 (by omega)
      have x1 : wr.cell? ⟨bx, offx + i * 4 + 1, none⟩ = some (.int .i64 xs[i].cents) := hcx 1 (by omega)
      have x2 : wr.cell? ⟨bx, offx + i * 4 + 2, none⟩ = some (.int .i64 xs[i].many) := hcx 2 (by omega)
      have x3 : wr.cell? ⟨bx, offx + i * 4 + 3, none⟩ = some (.slice xs[i].ta xs[i].tags.length xs[i].tc) := hcx 3 (by omega)
      have HLC : Hid (∀ W : World, H1.In W → W.cell? ⟨bl, offl + i, none⟩ = some (.int .i64 (left[i] : Nat))) := by
        intro W hW
        obtain ⟨bl', offl', hAl', _, hcl'⟩ := HP.out.lrow.at_ hW hli (by omega)
        rw [hAl] at hAl'
        simp only [Option.some.injEq, Addr.mk.injEq] at hAl'
        obtain ⟨rfl, rfl, _⟩ := hAl'
        simpa [fN] using hcl' 0 (by omega)
      have hzb := HP.out.bd _ (List.getElem_mem hli)
      have hib := HIB.out _ (List.getElem_mem hlt)
      have HXI := Lib.hid (HP.out.its _ (List.getElem_mem hlt))
      have HPT := Lib.hid (pcs_take d 0 xs left i hlt hli)
      rw [Nat.zero_add] at HPT
      have hlt2 : (i : Int) < xs.length := by omega
      have hli2 : (i : Int) < left.length := by omega
      have hpl := pcs_len d 0 (xs.take i) (left.take i) (fun x hx => (HIB.out x (List.mem_of_mem_take hx)).2.2.2)
      have hpl2 : (pcs d 0 (xs.take i) (left.take i)).length ≤ 1900 := by rw [List.length_take] at hpl; omega
      subst hAl hA
      clear hcl hcx hpl
      obtain ⟨m, hm⟩ := Int.eq_ofNat_of_zero_le (show 0 ≤ xs[i].many by omega)
      have HMT : Hid (xs[i].many.toNat = m) := by show _ = _; omega
      have hm2 : 1 ≤ m ∧ m ≤ 100 := by omega
      rw [hm] at x2
      rw [HMT.out] at HPT
      have HXM := Lib.hid hm
      clear hm HMT hib
      generalize left[i] = z at *
      generalize pcs d 0 (xs.take i) (left.take i) = lp at *
      generalize hlp2 : pcs d 0 (xs.take (i + 1)) (left.take (i + 1)) = lp2 at HPT
      have HLP2 := Lib.hid hlp2
      clear hlp2
      generalize xs[i] = x at *
      have c7 : (wr.alloc (.cells #[.string x.key, .int .i64 x.cents, .int .i64 (m : Int), .slice x.ta x.tags.length x.tc] 42)).heap[wr.heap.size]? = some (.cells #[.string x.key, .int .i64 x.cents, .int .i64 (m : Int), .slice x.ta x.tags.length x.tc] 42 (0, 0)) := heap_alloc_new _ _
      have J1 := Lib.hid (J.out.call (new1 (.cells #[.string x.key, .int .i64 x.cents, .int .i64 (m : Int), .slice x.ta x.tags.length x.tc] 42)))
      have C7 := Lib.hid c7
      have hg7 : w.heap.size + 1 ≤ wr.heap.size := J.out.sz
      have HLTV : Hid (∀ g, v5.ownBlock = some g → g < wr.heap.size) := fun g hg => (Orow.lt J.out.row hg).2
      clear J c7
      go_upto_region 5 with (fail)
      generalize wr.alloc (.cells #[.string x.key, .int .i64 x.cents, .int .i64 (m : Int), .slice x.ta x.tags.length x.tc] 42) = W3 at *
      clear x0 x1 x2 x3
      have hk2 := J1.out.inn _ _ HBD.out
      have y0 := cell_h hk2 0 (v := .string d.key) rfl
      have y1 := cell_h hk2 1 (v := .int .i64 d.kind) rfl
      have y2 := cell_h hk2 2 (v := .int .i64 d.a) rfl
      have y3 := cell_h hk2 3 (v := .int .i64 d.b) rfl
      have y4 := cell_h hk2 4 (v := .slice d.ta d.tags.length d.tc) rfl
      have y5 := cell_h hk2 5 (v := .int .i64 d.least) rfl
      have y6 := cell_h hk2 6 (v := .int .i64 d.most) rfl
      have y7 := cell_h hk2 7 (v := .string d.group) rfl
      have y8 := cell_h hk2 8 (v := .bool d.alone) rfl
      have y9 := cell_h hk2 9 (v := .int .i64 d.order) rfl
      have y10 := cell_h hk2 10 (v := .int .i64 d.first) rfl
      have y11 := cell_h hk2 11 (v := .int .i64 d.last) rfl
      have x0 : W3.cell? ⟨wr.heap.size, 0, none⟩ = some (.string x.key) := cell_h C7.out 0 rfl
      have x1 : W3.cell? ⟨wr.heap.size, 1, none⟩ = some (.int .i64 x.cents) := cell_h C7.out 1 rfl
      have x2 : W3.cell? ⟨wr.heap.size, 2, none⟩ = some (.int .i64 (m : Int)) := cell_h C7.out 2 rfl
      have x3 : W3.cell? ⟨wr.heap.size, 3, none⟩ = some (.slice x.ta x.tags.length x.tc) := cell_h C7.out 3 rfl
      clear hk2
      have HMA := Lib.hid (matches_any H1 d x W3 J1.out.inn HD.out HXI.out)
      rw [HXM.out] at HMA
      generalize wr.heap.size = g7 at *
      go_wp2_with fail
      refine HMA.out.mono ?_
      rintro e W4 ⟨rfl, hb4⟩
      have J2 := Lib.hid (J1.out.call hb4)
      have C8 := Lib.hid ((hb4.block _ (lt_of_heap C7.out)).trans C7.out)
      clear y0 y1 y2 y3 y4 y5 y6 y7 y8 y9 y10 y11 x0 x1 x2 x3 hb4 J1 C7 HMA
      generalize matB d x = qm at *
      cases qm with
      | false =>
        have J3 : Hid (FrS H1 w lp2 v5 W4) := by
          have := HPT.out
          simp at this
          rw [this]
          exact J2.out
        clear J2 HPT
        go_wp2_with fail
        go_roundw
        case rel => exact ⟨i + 1, by omega, by go_num, by rw [HLP2.out]; exact J3⟩
        case measure => simp [intOf]; omega
      | true =>
        have HPT2 : Hid (lp2 = lp ++ List.replicate m ⟨i, z / m⟩) := by show _ = _; have := HPT.out; simpa using this
        clear HPT
        go_upto_region 6 with (fail)
        generalize W4 = W0 at J2 C8 ⊢
        have HSZ : Hid (w.heap.size + 1 ≤ W0.heap.size) := J2.out.sz
        have R5 := J2.out.row.own
        obtain ⟨x5, hx5⟩ : ∃ x, x = cellsOf 2 fPc lp := ⟨_, rfl⟩
        obtain ⟨y5, hy5⟩ : ∃ x, x = cellsOf 2 fPc (lp ++ List.replicate m ⟨i, z / m⟩) := ⟨_, rfl⟩
        have HYX : Hid (y5 = x5 ++ cellsOf 2 fPc (List.replicate m ⟨i, z / m⟩)) := by show _ = _; rw [hy5, hx5, cellsOf_split]
        rw [← hx5] at R5
        have HROWS : Hid (∀ t ∈ tsFr v5 (w.heap.size + 1) lp.length (lp.length + m) x5 y5, W0.ownsRow t.B t.T t.k t.v t.n t.xs) := by
          intro t ht
          simp only [tsFr, List.mem_cons, List.not_mem_nil, or_false] at ht
          subst ht
          exact R5
        have HAPT : Hid ((tsFr v5 (w.heap.size + 1) lp.length (lp.length + m) x5 y5).Pairwise fun t u => apart t.v u.v) := by
          show List.Pairwise _ _
          simp [tsFr]
        have HLT0 : Hid (∀ g, v5.ownBlock = some g → g < W0.heap.size) := fun g hg => (World.ownsRow.lt R5 g hg).2
        have HJI : Hid (∀ W L a, RowsJ W0 (tsFr v5 (w.heap.size + 1) lp.length (lp.length + m) x5 y5) L a W → W.heap[g7]? = some (.cells #[.string x.key, .int .i64 x.cents, .int .i64 (m : Int), .slice x.ta x.tags.length x.tc] 42 (0, 0)) ∧ W.cell? ⟨g, 2, none⟩ = some (.slice (some ⟨bl, offl, none⟩) left.length capl) ∧ W.cell? ⟨bl, offl + i, none⟩ = some (.int .i64 (z : Nat))) := fun W L a h => by
          have hin : H1.In W := h.inn J2.out.inn (fun t ht g hg => by
            simp only [tsFr, List.mem_cons, List.not_mem_nil, or_false] at ht
            subst ht
            exact J2.out.no g (Orow.lt J2.out.row hg).1)
          refine ⟨(h.keep g7 (lt_of_heap C8.out) (fun t ht c => ?_)).trans C8.out, cell_h (hin _ _ HP.out.blk) 2 rfl, HLC.out W hin⟩
          simp only [tsFr, List.mem_cons, List.not_mem_nil, or_false] at ht
          subst ht
          have := HLTV.out _ c
          omega
        have hzm1 : Int.tdiv ((z : Nat) : Int) (m : Int) = ((z / m : Nat) : Int) := rfl
        have hzm2 : ((z : Nat) : Int) / (m : Int) = ((z / m : Nat) : Int) := by omega
        have hzm3 : z / m ≤ 1000000000 := Nat.le_trans (Nat.div_le_self _ _) hzb
        have hm0 : ¬ m = 0 := by omega
        clear R5
        generalize z / m = q at *
        refine wp_region_concV 18 95 (φFr W0.heap.size v5 (.slice (some ⟨bl, offl, none⟩) left.length capl) g g7 bl offl i z m q) (RowsJ W0 (tsFr v5 (w.heap.size + 1) lp.length (lp.length + m) x5 y5)) (RowsE W0) (by kernel_rfl) (by kernel_rfl) (by rfl) (RowsJ.start HROWS.out HAPT.out _ _) (fun i x w w' _ e h => φFr_mono i x w w' e h) (fun i x w hi e _ => absurd e (by have hcs : i = 0 ∨ i = 1 ∨ i = 2 ∨ i = 3 ∨ i = 4 ∨ i = 5 ∨ i = 6 ∨ i = 7 ∨ i = 8 ∨ i = 9 ∨ i = 10 ∨ i = 11 ∨ i = 12 ∨ i = 13 ∨ i = 14 ∨ i = 15 ∨ i = 16 ∨ i = 17 := (by omega); rcases hcs with rfl | rfl | rfl | rfl | rfl | rfl | rfl | rfl | rfl | rfl | rfl | rfl | rfl | rfl | rfl | rfl | rfl | rfl <;> decide)) ?_ ?_
        · intro n o hn ho a W2 L hr hsN hLs hJ hkn
          replace hsN : a.tmps.size = 95 := hsN
          have hcs : n = 0 ∨ n = 1 ∨ n = 2 ∨ n = 3 ∨ n = 4 ∨ n = 5 ∨ n = 6 ∨ n = 7 ∨ n = 8 ∨ n = 9 ∨ n = 10 ∨ n = 11 ∨ n = 12 ∨ n = 13 ∨ n = 14 ∨ n = 15 ∨ n = 16 ∨ n = 17 := by omega
          rcases hcs with rfl | rfl | rfl | rfl | rfl | rfl | rfl | rfl | rfl | rfl | rfl | rfl | rfl | rfl | rfl | rfl | rfl | rfl
          · obtain rfl := Option.some.inj ho
            refine OpV.mono (R := fun v w' => φFr W0.heap.size v5 (.slice (some ⟨bl, offl, none⟩) left.length capl) g g7 bl offl i z m q 0 v w' ∧ Below W2.heap.size W2 w') ?_ (fun v w' h => ⟨h.1, hJ.step h.2 (rows_ne (li := [17]) (ls := [42]) rfl rfl (by decide) (by decide)) v, RowsE.of h.2⟩)
            exact ⟨hkn 5 (by decide), Below.refl _ _⟩
          · obtain rfl := Option.some.inj ho
            refine OpV.mono (R := fun v w' => φFr W0.heap.size v5 (.slice (some ⟨bl, offl, none⟩) left.length capl) g g7 bl offl i z m q 1 v w' ∧ Below W2.heap.size W2 w') ?_ (fun v w' h => ⟨h.1, hJ.step h.2 (rows_ne (li := [17]) (ls := [42]) rfl rfl (by decide) (by decide)) v, RowsE.of h.2⟩)
            exact ⟨hkn 6 (by decide), Below.refl _ _⟩
          · obtain rfl := Option.some.inj ho
            refine OpV.mono (R := fun v w' => φFr W0.heap.size v5 (.slice (some ⟨bl, offl, none⟩) left.length capl) g g7 bl offl i z m q 2 v w' ∧ Below W2.heap.size W2 w') ?_ (fun v w' h => ⟨h.1, hJ.step h.2 (rows_ne (li := [17]) (ls := [42]) rfl rfl (by decide) (by decide)) v, RowsE.of h.2⟩)
            exact ⟨hkn 0 (by decide), Below.refl _ _⟩
          · obtain rfl := Option.some.inj ho
            refine OpV.mono (R := fun v w' => φFr W0.heap.size v5 (.slice (some ⟨bl, offl, none⟩) left.length capl) g g7 bl offl i z m q 3 v w' ∧ Below W2.heap.size W2 w') ?_ (fun v w' h => ⟨h.1, hJ.step h.2 (rows_ne (li := [17]) (ls := [42]) rfl rfl (by decide) (by decide)) v, RowsE.of h.2⟩)
            have h0 := slotv (hkn 27 (by decide) : a.tmps.getD 27 undef = .pointer (some ⟨g, 0, none⟩))
            clear hkn ho
            simp only [OpV, execOp]
            simp [go_sem, h0]
            first | exact ⟨rfl, Below.refl _ _⟩ | exact Below.refl _ _
          · obtain rfl := Option.some.inj ho
            refine OpV.mono (R := fun v w' => φFr W0.heap.size v5 (.slice (some ⟨bl, offl, none⟩) left.length capl) g g7 bl offl i z m q 4 v w' ∧ Below W2.heap.size W2 w') ?_ (fun v w' h => ⟨h.1, hJ.step h.2 (rows_ne (li := [17]) (ls := [42]) rfl rfl (by decide) (by decide)) v, RowsE.of h.2⟩)
            have h0 := slotv (hkn 28 (by decide) : a.tmps.getD 28 undef = .pointer (some ⟨g, 0, none⟩))
            clear hkn ho
            simp only [OpV, execOp]
            simp [go_sem, h0]
            first | exact ⟨rfl, Below.refl _ _⟩ | exact Below.refl _ _
          · obtain rfl := Option.some.inj ho
            refine OpV.mono (R := fun v w' => φFr W0.heap.size v5 (.slice (some ⟨bl, offl, none⟩) left.length capl) g g7 bl offl i z m q 5 v w' ∧ Below W2.heap.size W2 w') ?_ (fun v w' h => ⟨h.1, hJ.step h.2 (rows_ne (li := [17]) (ls := [42]) rfl rfl (by decide) (by decide)) v, RowsE.of h.2⟩)
            have h0 := slotv (hkn 29 (by decide) : a.tmps.getD 29 undef = .pointer (some ⟨g, 2, none⟩))
            have hcc := (HJI.out W2 _ _ hJ).2.1
            clear hkn ho
            simp only [OpV, execOp]
            simp [go_sem, h0, hcc]
            first | exact ⟨rfl, Below.refl _ _⟩ | exact Below.refl _ _
          · obtain rfl := Option.some.inj ho
            refine OpV.mono (R := fun v w' => φFr W0.heap.size v5 (.slice (some ⟨bl, offl, none⟩) left.length capl) g g7 bl offl i z m q 6 v w' ∧ Below W2.heap.size W2 w') ?_ (fun v w' h => ⟨h.1, hJ.step h.2 (rows_ne (li := [17]) (ls := [42]) rfl rfl (by decide) (by decide)) v, RowsE.of h.2⟩)
            exact ⟨hkn 6 (by decide), Below.refl _ _⟩
          · obtain rfl := Option.some.inj ho
            refine OpV.mono (R := fun v w' => φFr W0.heap.size v5 (.slice (some ⟨bl, offl, none⟩) left.length capl) g g7 bl offl i z m q 7 v w' ∧ Below W2.heap.size W2 w') ?_ (fun v w' h => ⟨h.1, hJ.step h.2 (rows_ne (li := [17]) (ls := [42]) rfl rfl (by decide) (by decide)) v, RowsE.of h.2⟩)
            have h0 := slotv (hkn 30 (by decide) : a.tmps.getD 30 undef = .slice (some ⟨bl, offl, none⟩) left.length capl)
            have h1 := slotv (hkn 31 (by decide) : a.tmps.getD 31 undef = .int .i64 (i : Nat))
            clear hkn ho
            simp only [OpV, execOp]
            simp [go_sem, h0, h1, hli2]
            first | exact ⟨rfl, Below.refl _ _⟩ | exact Below.refl _ _
          · obtain rfl := Option.some.inj ho
            refine OpV.mono (R := fun v w' => φFr W0.heap.size v5 (.slice (some ⟨bl, offl, none⟩) left.length capl) g g7 bl offl i z m q 8 v w' ∧ Below W2.heap.size W2 w') ?_ (fun v w' h => ⟨h.1, hJ.step h.2 (rows_ne (li := [17]) (ls := [42]) rfl rfl (by decide) (by decide)) v, RowsE.of h.2⟩)
            have h0 := slotv (hkn 32 (by decide) : a.tmps.getD 32 undef = .pointer (some ⟨bl, offl + i, none⟩))
            have hcc := (HJI.out W2 _ _ hJ).2.2
            clear hkn ho
            simp only [OpV, execOp]
            simp [go_sem, h0, hcc]
            first | exact ⟨rfl, Below.refl _ _⟩ | exact Below.refl _ _
          · obtain rfl := Option.some.inj ho
            refine OpV.mono (R := fun v w' => φFr W0.heap.size v5 (.slice (some ⟨bl, offl, none⟩) left.length capl) g g7 bl offl i z m q 9 v w' ∧ Below W2.heap.size W2 w') ?_ (fun v w' h => ⟨h.1, hJ.step h.2 (rows_ne (li := [17]) (ls := [42]) rfl rfl (by decide) (by decide)) v, RowsE.of h.2⟩)
            have h0 := slotv (hkn 7 (by decide) : a.tmps.getD 7 undef = .pointer (some ⟨g7, 0, none⟩))
            clear hkn ho
            simp only [OpV, execOp]
            simp [go_sem, h0]
            first | exact ⟨rfl, Below.refl _ _⟩ | exact Below.refl _ _
          · obtain rfl := Option.some.inj ho
            refine OpV.mono (R := fun v w' => φFr W0.heap.size v5 (.slice (some ⟨bl, offl, none⟩) left.length capl) g g7 bl offl i z m q 10 v w' ∧ Below W2.heap.size W2 w') ?_ (fun v w' h => ⟨h.1, hJ.step h.2 (rows_ne (li := [17]) (ls := [42]) rfl rfl (by decide) (by decide)) v, RowsE.of h.2⟩)
            have h0 := slotv (hkn 34 (by decide) : a.tmps.getD 34 undef = .pointer (some ⟨g7, 2, none⟩))
            have hcc : W2.cell? ⟨g7, 2, none⟩ = some (.int .i64 (m : Int)) := cell_h (HJI.out W2 _ _ hJ).1 2 rfl
            clear hkn ho
            simp only [OpV, execOp]
            simp [go_sem, h0, hcc]
            first | exact ⟨rfl, Below.refl _ _⟩ | exact Below.refl _ _
          · obtain rfl := Option.some.inj ho
            refine OpV.mono (R := fun v w' => φFr W0.heap.size v5 (.slice (some ⟨bl, offl, none⟩) left.length capl) g g7 bl offl i z m q 11 v w' ∧ Below W2.heap.size W2 w') ?_ (fun v w' h => ⟨h.1, hJ.step h.2 (rows_ne (li := [17]) (ls := [42]) rfl rfl (by decide) (by decide)) v, RowsE.of h.2⟩)
            have h0 := slotv (hkn 33 (by decide) : a.tmps.getD 33 undef = .int .i64 (z : Nat))
            have h1 := slotv (hkn 35 (by decide) : a.tmps.getD 35 undef = .int .i64 (m : Nat))
            have hqw : IntKind.i64.wrap ((q : Nat) : Int) = (q : Int) := IntWalk.i64_in _ (by omega)
            clear hkn ho
            simp only [OpV, execOp]
            simp [go_sem, h0, h1, hzm1, hm0, hqw]
            first | exact ⟨rfl, Below.refl _ _⟩ | exact Below.refl _ _
          · obtain rfl := Option.some.inj ho
            refine OpV.mono (R := fun v w' => φFr W0.heap.size v5 (.slice (some ⟨bl, offl, none⟩) left.length capl) g g7 bl offl i z m q 12 v w' ∧ Below W2.heap.size W2 w') ?_ (fun v w' h => ⟨h.1, hJ.step h.2 (rows_ne (li := [17]) (ls := [42]) rfl rfl (by decide) (by decide)) v, RowsE.of h.2⟩)
            have h0 := slotv (hkn 26 (by decide) : a.tmps.getD 26 undef = .int .i64 (i : Nat))
            have h1 := slotv (hkn 36 (by decide) : a.tmps.getD 36 undef = .int .i64 (q : Nat))
            clear hkn ho
            simp only [OpV, execOp]
            simp [go_sem, h0, h1]
            first | exact ⟨rfl, Below.refl _ _⟩ | exact Below.refl _ _
          · obtain rfl := Option.some.inj ho
            refine OpV.mono (R := fun v w' => φFr W0.heap.size v5 (.slice (some ⟨bl, offl, none⟩) left.length capl) g g7 bl offl i z m q 13 v w' ∧ Below W2.heap.size W2 w') ?_ (fun v w' h => ⟨h.1, hJ.step h.2 (rows_ne (li := [17]) (ls := [42]) rfl rfl (by decide) (by decide)) v, RowsE.of h.2⟩)
            have h0 := slotv (hkn 37 (by decide) : a.tmps.getD 37 undef = .agg #[.int .i64 (i : Nat), .int .i64 (q : Nat)])
            clear hkn ho
            simp only [OpV, execOp]
            simp [go_sem, h0]
            exact ⟨⟨W2.heap.size, rfl, hJ.size, heap_alloc_new _ _⟩, new1 _⟩
          · obtain rfl := Option.some.inj ho
            refine OpV.mono (R := fun v w' => φFr W0.heap.size v5 (.slice (some ⟨bl, offl, none⟩) left.length capl) g g7 bl offl i z m q 14 v w' ∧ Below W2.heap.size W2 w') ?_ (fun v w' h => ⟨h.1, hJ.step h.2 (rows_ne (li := [17]) (ls := [42]) rfl rfl (by decide) (by decide)) v, RowsE.of h.2⟩)
            have h0 := slotv (hkn 7 (by decide) : a.tmps.getD 7 undef = .pointer (some ⟨g7, 0, none⟩))
            clear hkn ho
            simp only [OpV, execOp]
            simp [go_sem, h0]
            first | exact ⟨rfl, Below.refl _ _⟩ | exact Below.refl _ _
          · obtain rfl := Option.some.inj ho
            refine OpV.mono (R := fun v w' => φFr W0.heap.size v5 (.slice (some ⟨bl, offl, none⟩) left.length capl) g g7 bl offl i z m q 15 v w' ∧ Below W2.heap.size W2 w') ?_ (fun v w' h => ⟨h.1, hJ.step h.2 (rows_ne (li := [17]) (ls := [42]) rfl rfl (by decide) (by decide)) v, RowsE.of h.2⟩)
            have h0 := slotv (hkn 39 (by decide) : a.tmps.getD 39 undef = .pointer (some ⟨g7, 2, none⟩))
            have hcc : W2.cell? ⟨g7, 2, none⟩ = some (.int .i64 (m : Int)) := cell_h (HJI.out W2 _ _ hJ).1 2 rfl
            clear hkn ho
            simp only [OpV, execOp]
            simp [go_sem, h0, hcc]
            first | exact ⟨rfl, Below.refl _ _⟩ | exact Below.refl _ _
          · obtain rfl := Option.some.inj ho
            refine OpV.mono (R := fun v w' => φFr W0.heap.size v5 (.slice (some ⟨bl, offl, none⟩) left.length capl) g g7 bl offl i z m q 16 v w' ∧ Below W2.heap.size W2 w') ?_ (fun v w' h => ⟨h.1, hJ.step h.2 (rows_ne (li := [17]) (ls := [42]) rfl rfl (by decide) (by decide)) v, RowsE.of h.2⟩)
            obtain ⟨b, h2, hb0, hh⟩ : TmpS W0.heap.size (a.tmps.getD 38 undef) #[.int .i64 (i : Nat), .int .i64 (q : Nat)] 163 W2 := hkn 38 (by decide)
            replace h2 := slotv h2
            have h3 := slotv (hkn 40 (by decide) : a.tmps.getD 40 undef = .int .i64 (m : Nat))
            have hcc := repeat_any b m ⟨i, q⟩ W2 hh hm2.1 hm2.2
            clear hkn ho
            simp only [OpV, execOp]
            simp [go_sem, h2, h3]
            refine hcc.mono ?_
            rintro e w' ⟨⟨v, rfl, hO⟩, hb⟩
            exact ⟨v, rfl, hO.mono hJ.size, hb⟩
          · obtain rfl := Option.some.inj ho
            have h1 := slotv (hkn 25 (by decide) : a.tmps.getD 25 undef = v5)
            have h2 : Orow W2 W0.heap.size 163 2 fPc (a.tmps.getD 41 undef) (List.replicate m ⟨i, q⟩) := hkn 41 (by decide)
            obtain ⟨g9, cap9, rest9, hv9, hle9, hB9, hlt9, hm9, hk9, hr9⟩ := Orow.form h2 (fun e => by have := congrArg List.length e; simp at this; omega)
            rw [List.length_replicate] at hv9
            replace hv9 := slotv hv9
            refine OpV.mono (hJ.apps (t := ⟨17, 42, v5, w.heap.size + 1, 163, 2, lp.length, x5, lp.length + m, y5⟩) (by simp [tsFr]) rfl (ready_not hr (by show (17 : Nat) < L.size; rw [hLs]; decide)) (by show (17 : Nat) < L.size; rw [hLs]; decide) (by show (42 : Nat) < a.tmps.size; rw [hsN]; decide) (rows_other (li := [17]) (ls := [42]) rfl rfl (by decide) (by decide) (by simp [tsFr])) (nodup_of_map (f := RowT.i) (show ([17] : List Nat).Nodup by decide)) HLT0.out (.tmp 25) (.tmp 41) 160 rfl ip (.agg #[.int .i64 0, .int .i64 0]) 16 Tryz.underlying160 hip hp0 hp1 hp2 rfl (show (0 : Nat) < 2 by decide) (by simpa [Act.eval, tsFr] using h1) ⟨g9, 0, none⟩ m cap9 (cellsOf 2 fPc (List.replicate m ⟨i, q⟩)) (by simpa [Act.eval] using hv9) (by rw [cellsOf_len, List.length_replicate]) (fun j u hu => ?_) (cellsPc_one _) rfl HYX.out (by show lp.length + m ≤ _; omega) (by decide) (by have := HSZ.out; show w.heap.size + 1 ≤ _; omega)) (fun v w' h => ⟨trivial, h.1, h.2⟩)
            rw [Addr.add_lit]
            unfold KBlk at hk9
            simp only [World.cell?, hk9]
            have hjl := (List.getElem?_eq_some_iff.1 hu).1
            simp
            rw [List.getElem?_append_left hjl]
            exact hu
        · intro yv W9 L9 hL9 hW9 hgt hφ
          rw [hx5, hy5] at hW9
          have J3 := Lib.hid (J2.out.next hW9 (hL9 17 (by decide)) (hgt 17 42 rfl))
          clear hW9 hgt hφ hL9 HROWS HAPT HLT0 HJI J2 hx5 hy5 HYX
          simp only [List.drop_succ_cons, List.drop_zero, List.take_succ_cons, List.take_zero, putAll, Nat.reduceAdd]
          generalize yv 17 = z17 at J3 ⊢
          rw [← HPT2.out] at J3
          go_wp2_with fail
          go_roundw
          case rel => exact ⟨i + 1, by omega, by go_num, by rw [HLP2.out]; exact J3⟩
          case measure => simp [intOf]; omega
    · have hie : i = xs.length := by omega
      subst hie
      have hps : pcs d 0 (xs.take xs.length) (left.take xs.length) = pcs d 0 xs left := by rw [List.take_length, HXL.out, List.take_length]
      have hJ1 := J.out
      rw [hps] at hJ1
      have hpl := pcs_len d 0 xs left (fun x hx => (HIB.out x hx).2.2.2)
      have hpi := pcs_item d 0 xs left
      have hlsum : left.sum ≤ 19000000000 := by
        have h1 := Hb.sum_le HP.out.bd
        have h2 : left.length * 1000000000 ≤ 19 * 1000000000 := Nat.mul_le_mul_right _ hsm
        omega
      have hsort := sortStab_Pc H1 fPc 114 [] cmpP (pcs d 0 xs left) (fun _ _ _ => fPc_one _ _) (fun W a b _ _ _ => free1_any a b W) (fun _ _ _ => by kernel_rfl) v5 (w.heap.size + 1) wr (by omega) hJ1.inn (fun g hg => hJ1.no g (Orow.lt hJ1.row hg).1) hJ1.row
      rw [cmpP_lt] at hsort
      have HSORT := Lib.hid hsort
      have hFW : freeW d xs left = freeL an bn (stabF ltP (pcs d 0 xs left)).length (stabF ltP (pcs d 0 xs left)) (List.replicate left.length 0) := by unfold freeW; rw [HAN.out, HBN0.out]
      have hSL : (stabF ltP (pcs d 0 xs left)).length = (pcs d 0 xs left).length := (stabF_perm _ _).length_eq
      have HSC : Hid (∀ p ∈ stabF ltP (pcs d 0 xs left), p.item < left.length ∧ p.cents ≤ 19000000000) := fun p hp => by
        have := hpi p ((stabF_perm _ _).mem_iff.1 hp)
        omega
      have hS2 : (stabF ltP (pcs d 0 xs left)).length ≤ 1900 := by omega
      have HJ1 := Lib.hid hJ1
      clear J hps hpl hpi hsort hSL
      generalize stabF ltP (pcs d 0 xs left) = S at *
      have HFW := Lib.hid hFW
      clear hFW hJ1
      go_wp2_with fail
      refine HSORT.out.mono ?_
      rintro e W2 ⟨rfl, hO, hg2, hin2⟩
      have hbel2 : Below w.heap.size w W2 := HJ1.out.bel.grown hg2 HJ1.out.bel.size (fun g hg => by have := (Orow.lt HJ1.out.row hg).1; omega)
      obtain ⟨A2, cap2, H2, hv2, hle2, q1, q2, hR2, q3⟩ := Orow.freezeN hO H1
      have hno2 : ∀ b, W2.heap.size ≤ b → H2 b = none := fun b hb => (q1 hin2).none_ hb
      have hle12 := q2 (fun g hg => HJ1.out.no g (Orow.lt HJ1.out.row hg).1)
      have HIN2 := Lib.hid (q1 hin2)
      have HB2 := Lib.hid hbel2
      have HR2 := Lib.hid hR2
      have HP2 := Lib.hid (HP.out.le hle12)
      have HBD2 := Lib.hid (hle12 _ _ HBD.out)
      have HNO2 := Lib.hid hno2
      subst hv2
      clear HSORT HJ1 hO hg2 hin2 hbel2 q1 q2 q3 hR2 hno2 hle12 HP HBD HD
      have hk := HIN2.out _ _ HP2.out.blk
      have p2 := cell_h hk 2 (v := .slice Al left.length capl) rfl
      clear hk
      have HMK : Hid (∀ w2 : World, w2.ownsRow W2.heap.size 3 1 (.slice (some ⟨W2.heap.size, 0, none⟩) left.length left.length) left.length (madeCells (Value.int .i64 0).cells (left.length * 1)).toList → W2.grownBy w2 none → FrT H2 w W2.heap.size (List.replicate left.length 0) w2) := by
        intro w2 h1 h2
        have hb2 : Below W2.heap.size W2 w2 := ⟨h2.os, h2.tape, h2.output, h2.size, fun k hk => h2.block k hk (by simp)⟩
        exact ⟨HIN2.out.below hb2, HB2.out.trans (hb2.mono HB2.out.size), made_int h1, HB2.out.size, HNO2.out _ (Nat.le_refl _)⟩
      go_upto_region 10 with (at_make; refine wpList_make_full _ rfl _ _ 22 rfl W2.heap.size 3 i0 (.int .i64 0) 1 Tryz.underlying22 hi0 hz0 hz1 _ _ _ _ left.length rfl rfl rfl rfl (by rw [hz2]; omega) (by simp only [maxLen]; omega) (Nat.le_refl _) ?_; intro w2 hown2 hgrow2; have J0 := Lib.hid (HMK.out _ hown2 hgrow2); clear hown2 hgrow2 HMK)
      generalize W2.heap.size = g8 at *
      clear p2
      go_loopw [5] (fun v wr => ∃ (off k : Nat) (out : List Nat) (A' : Option Addr) (cc : Nat), v = .slice A' (S.length - off : Nat) cc ∧ off ≤ S.length ∧ S.length - off ≤ k ∧ S.length - off ≤ cc ∧ out.length = left.length ∧ Hid (off < S.length → ∃ b o, A2 = some ⟨b, o, none⟩ ∧ A' = some ⟨b, o + off * 2, none⟩) ∧ Hid (∀ z ∈ out, z ≤ 19000000000 * off) ∧ Hid (freeW d xs left = freeL an bn k (S.drop off) out) ∧ Hid (FrT H2 w g8 out wr)) (fun v _ => match v with | .slice _ n _ => n | _ => 0)
      case atStart =>
        refine ⟨0, S.length, List.replicate left.length 0, A2, cap2, rfl, by omega, by omega, by omega, by simp, fun h => ?_, fun z hz => ?_, HFW.out, J0⟩
        · obtain ⟨b, o, hA, _⟩ := HR2.out.at_ HIN2.out (i := 0) (by omega) (by omega)
          exact ⟨b, o, hA, by simpa using hA⟩
        · have := List.eq_of_mem_replicate hz; omega
      case round =>
        obtain ⟨off, k, out, A', cc, rfl, hoff, hk, hcc, hol, hA, hob, hfw, J⟩ := hrel
        clear J0 HFW
        have hk2 := J.out.inn _ _ HBD2.out
        have y0 := cell_h hk2 0 (v := .string d.key) rfl
        have y1 := cell_h hk2 1 (v := .int .i64 d.kind) rfl
        have y2 := cell_h hk2 2 (v := .int .i64 d.a) rfl
        have y3 := cell_h hk2 3 (v := .int .i64 d.b) rfl
        have y4 := cell_h hk2 4 (v := .slice d.ta d.tags.length d.tc) rfl
        have y5 := cell_h hk2 5 (v := .int .i64 d.least) rfl
        have y6 := cell_h hk2 6 (v := .int .i64 d.most) rfl
        have y7 := cell_h hk2 7 (v := .string d.group) rfl
        have y8 := cell_h hk2 8 (v := .bool d.alone) rfl
        have y9 := cell_h hk2 9 (v := .int .i64 d.order) rfl
        have y10 := cell_h hk2 10 (v := .int .i64 d.first) rfl
        have y11 := cell_h hk2 11 (v := .int .i64 d.last) rfl
        clear hk2
        rw [HAN2.out] at y2
        rw [HBN2.out] at y3
        have ha3 : an ≤ 20 := ha1.2
        have hb3 : bn ≤ 20 := hb1.2
        by_cases hlt : an + bn ≤ S.length - off
        · have hlt2 : off < S.length := by omega
          obtain ⟨b2, o2, hA2, hA'⟩ := hA.out hlt2
          obtain ⟨k', rfl, hfn⟩ := free_next (S := S) (off := off) (out := out) (k := k) ha1.1 hlt hk
          rw [hfn] at hfw
          have HFN := hfw
          subst hA2 hA'
          have HCELL : Hid (∀ W : World, H2.In W → ∀ j, (hj : off + an + j < S.length) → W.cell? ⟨b2, o2 + off * 2 + an * 2 + j * 2, none⟩ = some (.int .i64 (S[off + an + j].item : Int)) ∧ W.cell? ⟨b2, o2 + off * 2 + an * 2 + j * 2 + 1, none⟩ = some (.int .i64 (S[off + an + j].cents : Int))) := by
            intro W hW j hj
            obtain ⟨b, o, hA, _, hc⟩ := HR2.out.at_ hW hj (by omega)
            simp only [Option.some.injEq, Addr.mk.injEq] at hA
            obtain ⟨rfl, rfl, _⟩ := hA
            have e1 : o2 + (off + an + j) * 2 = o2 + off * 2 + an * 2 + j * 2 := by omega
            rw [e1] at hc
            exact ⟨hc 0 (by omega), hc 1 (by omega)⟩
          have hl1 : ((an : Int) + (bn : Int)) ≤ ((S.length - off : Nat) : Int) := by omega
          have w1 : IntKind.i64.wrap ((an : Int) + (bn : Int)) = ((an + bn : Nat) : Int) := by rw [show (an : Int) + (bn : Int) = ((an + bn : Nat) : Int) from by omega]; exact IntWalk.i64_in _ (by omega)
          have hs1 : an ≤ an + bn := by omega
          have hs2 : an + bn ≤ cc := by omega
          have hs3 : ¬ cc = an := by omega
          have hs4 : an + bn - an = bn := by omega
          have J0 := Lib.hid J.out
          clear hfn hfw hA J
          go_upto_region 13 with (fail)
          clear w1 hs1 hs3 hs4 hl1
          have HYK : Hid (∀ W : World, H2.In W → W.cell? ⟨w.heap.size, 2, none⟩ = some (.int .i64 (an : Int)) ∧ W.cell? ⟨w.heap.size, 3, none⟩ = some (.int .i64 (bn : Int))) := by
            intro W hW
            have hk2 := hW _ _ HBD2.out
            have z2 : W.cell? ⟨w.heap.size, 2, none⟩ = some (.int .i64 d.a) := cell_h hk2 2 rfl
            have z3 : W.cell? ⟨w.heap.size, 3, none⟩ = some (.int .i64 d.b) := cell_h hk2 3 rfl
            rw [HAN2.out] at z2
            rw [HBN2.out] at z3
            exact ⟨z2, z3⟩
          clear y0 y1 y2 y3 y4 y5 y6 y7 y8 y9 y10 y11
          obtain ⟨T, hT⟩ : ∃ T, T = (S.drop off).drop an := ⟨_, rfl⟩
          have hTl : T.length = S.length - off - an := by rw [hT, List.length_drop, List.length_drop]
          have HTG : Hid (∀ j (h : j < T.length) (h2 : off + an + j < S.length), T[j] = S[off + an + j]) := by
            intro j h h2
            subst hT
            simp only [List.getElem_drop]
            congr 1
            omega
          rw [← hT] at HFN
          clear hT
          go_loopw [77] (fun t wr => ∃ j : Nat, j ≤ bn ∧ t = .int .i64 j ∧ Hid (FrT H2 w g8 (addP (T.take j) out) wr)) (fun t _ => bn - (intOf t).toNat)
          case atStart => exact ⟨0, by omega, rfl, by simpa [addP] using J0⟩
          case round =>
            obtain ⟨j, hj, rfl, J⟩ := hrel
            clear J0
            by_cases hltj : j < bn
            · have hjT : j < T.length := by omega
              have hjS : off + an + j < S.length := by omega
              obtain ⟨c0, c1⟩ := HCELL.out _ J.out.inn j hjS
              have hin := HSC.out _ (List.getElem_mem hjS)
              have hTJ := HTG.out j hjT hjS
              have hTK : T.take (j + 1) = T.take j ++ [T[j]] := List.take_succ_eq_append_getElem hjT
              have hnx := addP_snoc (T.take j) T[j] out
              rw [← hTK, hTJ] at hnx
              have hbd := addP_bd (l := T.take j) hob.out (M := 19000000000) (fun p hp => by
                obtain ⟨i, hi, rfl⟩ := List.getElem_of_mem (List.mem_of_mem_take hp)
                rw [HTG.out i hi (by omega)]
                exact (HSC.out _ (List.getElem_mem _)).2)
              have hlo : (addP (T.take j) out).length = left.length := by rw [addP_len, hol]
              have hil : S[off + an + j].item < (addP (T.take j) out).length := by omega
              have hO1 : ∀ W, FrT H2 w g8 (addP (T.take j) out) W → W.cell? ⟨g8, S[off + an + j].item, none⟩ = some (.int .i64 (((addP (T.take j) out).getD S[off + an + j].item 0 : Nat) : Int)) ∧ W.frozen? ⟨g8, S[off + an + j].item, none⟩ = false := by
                intro W h
                have h1 := h.blk.cell1 _ hil
                have h2 : (addP (T.take j) out)[S[off + an + j].item] = (addP (T.take j) out).getD S[off + an + j].item 0 := by simp [hil]
                rw [h2] at h1
                exact ⟨h1, h.blk.frozen _⟩
              have HO1 := Lib.hid hO1
              have hge : (addP (T.take j) out)[S[off + an + j].item] = (addP (T.take j) out).getD S[off + an + j].item 0 := by simp [hil]
              have hy := hbd _ (List.getElem_mem hil)
              rw [hge] at hy
              have hST := fun W (h : FrT H2 w g8 (addP (T.take j) out) W) => h.set hil ((addP (T.take j) out).getD S[off + an + j].item 0 + S[off + an + j].cents)
              rw [← hnx] at hST
              have HST := Lib.hid hST
              have hyb : (addP (T.take j) out).getD S[off + an + j].item 0 ≤ 19000000000 * 1900 + 19000000000 * 20 := by
                have h1 : (T.take j).length ≤ 20 := by rw [List.length_take]; omega
                have h2 : 19000000000 * off ≤ 19000000000 * 1900 := Nat.mul_le_mul_left _ (by omega)
                have h3 : 19000000000 * (T.take j).length ≤ 19000000000 * 20 := Nat.mul_le_mul_left _ h1
                omega
              have J1 := Lib.hid (J.out.call (new1 (.cells #[.int .i64 (S[off + an + j].item : Int), .int .i64 (S[off + an + j].cents : Int)] 163)))
              have C10 := Lib.hid (heap_alloc_new wr (.cells #[.int .i64 (S[off + an + j].item : Int), .int .i64 (S[off + an + j].cents : Int)] 163))
              clear hTK hnx hTJ hbd hge hy hST hO1 J
              generalize hout2 : addP (T.take (j + 1)) out = out2 at HST
              have HO2 := Lib.hid hout2
              clear hout2
              generalize S[off + an + j] = p at *
              generalize (addP (T.take j) out).getD p.item 0 = y at *
              generalize addP (T.take j) out = out1 at *
              have hlt3 : (j : Int) < (bn : Int) := by omega
              have hm3 : (p.item : Int) < left.length := by omega
              go_upto_region 15 with (fail)
              generalize wr.alloc (.cells #[.int .i64 (p.item : Int), .int .i64 (p.cents : Int)] 163) = W3 at *
              generalize wr.heap.size = g10 at *
              clear c0 c1
              have c0 : W3.cell? ⟨g10, 0, none⟩ = some (.int .i64 (p.item : Int)) := cell_h C10.out 0 rfl
              have c1 : W3.cell? ⟨g10, 1, none⟩ = some (.int .i64 (p.cents : Int)) := cell_h C10.out 1 rfl
              obtain ⟨o1, o2'⟩ := HO1.out W3 J1.out
              have J2 : Hid (FrT H2 w g8 out2 (W3.setCell ⟨g8, p.item, none⟩ (.int .i64 ((y : Int) + (p.cents : Int)))).drew) := by
                have h := HST.out W3 J1.out
                rw [show ((y + p.cents : Nat) : Int) = (y : Int) + (p.cents : Int) from by omega] at h
                exact ⟨h.inn, h.bel.drew, h.blk, h.ge, h.no⟩
              have w2 : IntKind.i64.wrap ((y : Int) + (p.cents : Int)) = ((y + p.cents : Nat) : Int) := by rw [show (y : Int) + (p.cents : Int) = ((y + p.cents : Nat) : Int) from by omega]; exact IntWalk.i64_in _ (by omega)
              clear HO1 HST J1 C10
              go_region
              go_wp2_with fail
              go_roundw
              case rel => exact ⟨j + 1, by omega, by go_num, by rw [HO2.out]; exact J2⟩
              case measure => simp [intOf]; omega
            · obtain rfl : bn = j := by omega
              obtain ⟨y2, y3⟩ := HYK.out _ J.out.inn
              have hbd := addP_bd (l := T.take bn) hob.out (M := 19000000000) (fun p hp => by
                obtain ⟨i, hi, rfl⟩ := List.getElem_of_mem (List.mem_of_mem_take hp)
                rw [HTG.out i hi (by omega)]
                exact (HSC.out _ (List.getElem_mem _)).2)
              have HOB : Hid (∀ z ∈ addP (T.take bn) out, z ≤ 19000000000 * (off + (an + bn))) := fun z hz => by
                have h1 := hbd z hz
                have h2 : (T.take bn).length ≤ bn := List.length_take_le _ _
                omega
              have HOL : Hid ((addP (T.take bn) out).length = left.length) := by show _ = _; rw [addP_len, hol]
              have w1 : IntKind.i64.wrap ((an : Int) + (bn : Int)) = ((an + bn : Nat) : Int) := by rw [show (an : Int) + (bn : Int) = ((an + bn : Nat) : Int) from by omega]; exact IntWalk.i64_in _ (by omega)
              have hl1 : an + bn ≤ S.length - off := hlt
              have hl2 : S.length - off ≤ cc := hcc
              have HLN : Hid (S.length - off - (an + bn) = S.length - (off + (an + bn))) := by show _ = _; omega
              have HAD : Hid (o2 + off * 2 + (an + bn) * 2 = o2 + (off + (an + bn)) * 2) := by show _ = _; omega
              clear hbd
              by_cases hc2 : cc = an + bn
              · have HE : Hid (¬ off + (an + bn) < S.length) := by show ¬ _; omega
                go_wp2_with fail
                rw [HLN.out]
                go_roundw
                case rel => exact ⟨off + (an + bn), k', addP (T.take bn) out, _, _, rfl, by omega, by omega, by omega, HOL.out, fun h => absurd h HE.out, HOB.out, HFN.out, J⟩
                case measure => simp; omega
              · go_wp2_with fail
                rw [HLN.out]
                go_roundw
                case rel => exact ⟨off + (an + bn), k', addP (T.take bn) out, _, _, rfl, by omega, by omega, by omega, HOL.out, fun h => ⟨b2, o2, rfl, by rw [← HAD.out]⟩, HOB.out, HFN.out, J⟩
                case measure => simp; omega
        · have hend := freeL_end (k := k) (out := out) (show (S.drop off).length < an + bn by rw [List.length_drop]; omega)
          have HFE : Hid (out = freeW d xs left) := by show _ = _; rw [hfw.out, hend]
          have HFL := Lib.hid (freeW_le d xs left)
          have hrow : Orow wr w.heap.size 3 1 fN (.slice (some ⟨g8, 0, none⟩) left.length left.length) (freeW d xs left) := by
            rw [← HFE.out]
            have := Orow.of_blk (B := w.heap.size) (cap := left.length) J.out.blk J.out.ge (by simp only [maxLen]; omega) (by omega) (by simp [hol])
            rw [hol] at this
            exact this
          have HROW := Lib.hid hrow
          have HBEL := Lib.hid J.out.bel
          rw [HMN2.out] at y6
          have w1 : IntKind.i64.wrap ((an : Int) + (bn : Int)) = ((an + bn : Nat) : Int) := by rw [show (an : Int) + (bn : Int) = ((an + bn : Nat) : Int) from by omega]; exact IntWalk.i64_in _ (by omega)
          have hl1 : ¬ ((an : Int) + (bn : Int)) ≤ ((S.length - off : Nat) : Int) := by omega
          have HMO := Lib.hid (most_any w.heap.size _ (freeW d xs left) mn wr hrow HBEL.out.size (by rw [HFL.out.len]; exact hsm) (fun z hz => by
            obtain ⟨i, hi, rfl⟩ := List.getElem_of_mem hz
            have h1 := HFL.out.at_ i hi (by rw [← HFL.out.len]; exact hi)
            have h2 := HP2.out.bd _ (List.getElem_mem (show i < left.length by rw [← HFL.out.len]; exact hi))
            omega) hmn2)
          have HFF : Hid (freeF d xs left = mostF (freeW d xs left) mn) := by show _ = _; unfold freeF; rw [HMN.out]
          clear hrow hend hfw hA hob J HFE
          go_wp2_with fail
          refine HMO.out.mono ?_
          rintro e w' ⟨⟨v', rfl, hO'⟩, hb'⟩
          have HO' := Lib.hid hO'
          have HB' := Lib.hid (HBEL.out.trans (hb'.mono HBEL.out.size))
          clear hO' hb' HMO
          go_wp2_with fail
          go_ret
          exact ⟨⟨_, rfl, by rw [HFF.out]; exact HO'.out⟩, HB'.out⟩
end Go.Proofs.YtihcmifikbkbcaaGreat
