/- The law SharesAddUp returns true, whatever its numbers. -/
import Derived.Test.YtadfoaopamlnpaaShares
namespace Go.Proofs.Ytadfoaopamlnpaa
set_option linter.unusedVariables false
open Go.RowKit

/-- What a share is: the weight over the sum. -/
theorem share_facts {z S : Nat} (h0 : 0 < S) : ∃ fn fd g : Nat, z / Nat.gcd z S = fn ∧ S / Nat.gcd z S = fd ∧ 1 ≤ fd ∧ fd ≤ S ∧ fn ≤ z ∧ (S : Int).tmod fd = 0 ∧ (S : Int).tdiv fd = g ∧ (fn : Int) * g = z ∧ g ≤ S := by
  have hg : 0 < Nat.gcd z S := Nat.gcd_pos_of_pos_right _ h0
  have d1 := Nat.gcd_dvd_left z S
  have d2 := Nat.gcd_dvd_right z S
  generalize Nat.gcd z S = g at hg d1 d2
  obtain ⟨a, rfl⟩ := d1
  obtain ⟨b, rfl⟩ := d2
  have e1 : g * a / g = a := Nat.mul_div_cancel_left _ hg
  have e2 : g * b / g = b := Nat.mul_div_cancel_left _ hg
  have hb : 0 < b := Nat.pos_of_mul_pos_left h0
  refine ⟨a, b, g, e1, e2, hb, Nat.le_mul_of_pos_left _ hg, Nat.le_mul_of_pos_left _ hg, ?_, ?_, ?_, Nat.le_mul_of_pos_right _ hb⟩
  · show ((g * b % b : Nat) : Int) = 0
    simp
  · show ((g * b / b : Nat) : Int) = g
    rw [Nat.mul_div_cancel _ hb]
  · rw [Int.natCast_mul]; exact Int.mul_comm _ _

theorem frac_cells {w : World} {B : Nat} {v : Value} {S : Nat} {ws : List Nat} (h : w.ownsRow B 28 2 v ws.length (shc S ws)) :
    ∃ A cap, v = .slice A ws.length cap ∧ ∀ i (hi : i < ws.length), ∃ g, A = some ⟨g, 0, none⟩ ∧ g < w.heap.size ∧ w.cell? ⟨g, i * 2, none⟩ = some (.int .i64 (ws[i] / Nat.gcd ws[i] S : Nat)) ∧ w.cell? ⟨g, i * 2 + 1, none⟩ = some (.int .i64 (S / Nat.gcd ws[i] S : Nat)) := by
  have hc := fun g => h.cells (g := g)
  rcases h.2 with ⟨rfl, hn⟩ | ⟨g, cap, cur, rfl, _, hh, hle, _⟩
  · exact ⟨none, 0, by rw [hn], fun i hi => by omega⟩
  · refine ⟨some ⟨g, 0, none⟩, cap, rfl, fun i hi => ⟨g, rfl, lt_of_heap hh, ?_, ?_⟩⟩
    · have := hc g rfl (i * 2) _ (shc_get S ws i hi).1
      rw [Addr.add_lit, Nat.zero_add] at this
      exact this
    · have := hc g rfl (i * 2 + 1) _ (shc_get S ws i hi).2
      rw [Addr.add_lit, Nat.zero_add] at this
      exact this

set_option maxHeartbeats 2000000 in
set_option maxRecDepth 100000 in
theorem sharesAddUp_walk (a0 : Option Addr) (len0 cap0 : Nat) (z0 : List Int) (x1 : Int) (w : World) (w0 : IsRow .i64 w a0 len0 cap0 z0) (_w1 : (Lit.int .i64 x1).wf = true) :
    Calls Try.prog 7 #[.slice a0 len0 cap0, .int .i64 x1] w fun e w' => e = .returned (.bool true) ∧ Below w.heap.size w w' := by
  clear _w1
  have L := Lw.new w0
  go_enter Try.func7, Try.ntmps7
  go_wp2_with fail
  refine (L.weights (by omega)).mono ?_
  rintro e W1 ⟨v, n, zs, rfl, hn, J⟩
  obtain ⟨j1, j2, j3, j4, -, -, -⟩ := J
  obtain ⟨A, cap, rfl, hI, hle, -⟩ := j3.ints
  have HB := Lib.hid j4.bel
  have HI := Lib.hid hI
  have hzl : zs.length ≤ 14 := by omega
  clear L j1 j3 j4 hI hle hn
  go_wp2_with fail
  refine (below_any x1 1000000000001 _ (by omega)).mono ?_
  rintro e W' ⟨rfl, rfl⟩
  have c0 := bel_lo x1 1000000000001
  have c1 := bel_hi (x := x1) (n := 1000000000001) (by omega)
  generalize bel x1 1000000000001 = c at c0 c1
  by_cases hk : cw zs = 0
  · obtain ⟨k1, k2, k3⟩ := cw_ok hk
    obtain ⟨ws, rfl⟩ := ci_of (fun z hz => (k2 z hz).1)
    obtain ⟨c, rfl⟩ := Int.eq_ofNat_of_zero_le c0
    have HK := Lib.hid hk
    have HK2 := Lib.hid k2
    have HL := Lib.hid (ci_len ws)
    rw [HL.out] at k1 ⊢
    have hS0 : 0 < ws.sum := by rw [ci_sum] at k3; omega
    have hS1 : ws.sum ≤ 12000000 := by
      have := Hb.sum_le (ws := ws) (b := 1000000) (fun z hz => by have := HK2.out (z : Int) (List.mem_map.2 ⟨z, hz, rfl⟩); omega)
      have : ws.length * 1000000 ≤ 12 * 1000000 := Nat.mul_le_mul_right _ k1
      omega
    clear hk k2 k3 hzl
    go_wp2_with fail
    refine (Shares_ok ws A cap _ HI.out HK.out).mono ?_
    rintro e W2 ⟨f, rfl, hf, hb2⟩
    have HI2 := Lib.hid (HI.out.below hb2)
    have HB2 := Lib.hid (HB.out.trans (hb2.mono HB.out.size))
    have HF := Lib.hid hf
    clear hf hb2 HI HB
    go_wp2_with fail
    refine (Divide_ok c ws A cap _ HI2.out (by omega) HK.out).mono ?_
    rintro e W3 ⟨p, ps, rfl, p1, p2, p3, hb3⟩
    have HI3 := Lib.hid (HI2.out.below hb3)
    have HB3 := Lib.hid (HB2.out.trans (hb3.mono HB2.out.size))
    have HF3 := Lib.hid (HF.out.kept (row := none) ⟨hb3.os, hb3.tape, hb3.output, hb3.size, fun k hk _ => hb3.block k hk⟩ (by cases e : f.ownBlock <;> simp))
    have P1 := Lib.hid p1
    have P2 := Lib.hid p2
    obtain ⟨Ap, capp, rfl, hp, -, -⟩ := p3.ints
    have P3 := Lib.hid hp
    obtain ⟨Af, capf, rfl, hf⟩ := frac_cells HF3.out
    have HFF := Lib.hid hf
    clear p1 p2 p3 hp hb3 HI2 HB2 HF HF3 hf
    go_wp2_with fail
    rw [← HL.out]
    refine (total_any A cap (ci ws) _ HI3.out (fun z hz => by have := HK2.out z hz; omega) (by rw [HL.out]; omega)).mono ?_
    rintro e W' ⟨rfl, rfl⟩
    rw [ci_sum, HL.out]
    generalize hSS : ws.sum = S at hS0 hS1
    have HSS := Lib.hid hSS
    clear hSS
    go_wp2_with fail
    go_loopw [11, 43] (fun s t wr => ∃ i : Nat, i ≤ ws.length ∧ t = .int .i64 i ∧ s = .int .i64 ((ws.take i).sum : Nat) ∧ Hid (Below W3.heap.size W3 wr)) (fun _ t _ => ws.length - (intOf t).toNat)
    case atStart => exact ⟨0, Nat.zero_le _, rfl, rfl, Below.refl _ _⟩
    case round =>
      obtain ⟨i, hi, rfl, rfl, J⟩ := hrel
      by_cases hlt : i < ws.length
      · obtain ⟨g, rfl, hg, cn, cd⟩ := HFF.out i hlt
        rw [HSS.out] at cn cd
        obtain ⟨fn, fd, gg, e1, e2, f1, f2, f3, f4, f5, f6, f7⟩ := share_facts (z := ws[i]) hS0
        rw [e1] at cn
        rw [e2] at cd
        obtain ⟨b, off, rfl, hc⟩ := HI3.out i (by rw [HL.out]; exact hlt)
        rw [ci_get] at hc
        have hbl := World.block_lt_of_cell? W3 _ hc
        have dn := (J.out.cell (p := ⟨g, i * 2, none⟩) hg).trans cn
        have dd := (J.out.cell (p := ⟨g, i * 2 + 1, none⟩) hg).trans cd
        have dc := (J.out.cell (p := ⟨b, off + i, none⟩) hbl).trans hc
        have hz := HK2.out _ (List.mem_map.2 ⟨ws[i], List.getElem_mem hlt, rfl⟩)
        have hts := Lib.hid (Hb.sum_take_succ hlt)
        have hsl := Hb.sum_take_le ws i
        rw [HSS.out] at hsl
        have hgl : g < wr.heap.size := Nat.lt_of_lt_of_le hg J.out.size
        have hbl2 : b < wr.heap.size := Nat.lt_of_lt_of_le hbl J.out.size
        generalize ws[i] = z at dc hz hts f3 f6
        generalize (ws.take i).sum = sm at hts hsl
        clear hc cn cd e1 e2
        have q1 : ((fd : Int) == 0) = false := by simp; omega
        have q2 : decide ((fd : Int) < 1) = false := by simp; omega
        have q3 : IntKind.i64.wrap (gg : Int) = gg := IntWalk.i64_in _ (by omega)
        have q4 : IntKind.i64.wrap ((fn : Int) * gg) = z := by rw [f6]; exact IntWalk.i64_in _ (by omega)
        have F6 := Lib.hid f6
        clear f6
        go_wp2_with fail
        go_quiet (fail)
        go_wp2_with fail
        have q5 : IntKind.i64.wrap ((sm : Int) + z) = (sm : Int) + z := IntWalk.i64_in _ (by omega)
        go_quiet (fail)
        go_wp2_with fail
        go_roundw
        case rel => exact ⟨i + 1, by omega, by go_num, by rw [hts.out]; go_num, below_drewN (J.out.alloc J.out.size _) _⟩
        case measure => simp [intOf]; omega
      · obtain rfl : i = ws.length := by omega
        rw [List.take_length, HSS.out]
        go_wp2_with fail
        refine (measures_any _).mono ?_
        rintro e W4 ⟨rfl, hb4⟩
        have hb34 := J.out.trans (hb4.mono J.out.size)
        have P4 := Lib.hid (P3.out.below hb34)
        have HB4 := Lib.hid (HB3.out.trans (hb34.mono HB3.out.size))
        clear hb34 hb4 J HB3 P3
        go_wp2_with fail
        refine (total_any Ap capp (ci ps) _ P4.out ?_ ?_).mono ?_
        · intro z hz
          obtain ⟨y, hy, rfl⟩ := List.mem_map.1 hz
          have := Hb.mem_le_sum hy
          rw [P2.out] at this
          omega
        · rw [ci_len, P1.out]; omega
        rintro e W' ⟨rfl, rfl⟩
        rw [ci_sum, P2.out]
        go_wp2_with fail
        go_ret
        exact ⟨rfl, HB4.out⟩
  · have HK := Lib.hid hk
    have hkb : (cw zs != 0) = true := by simpa using hk
    clear hk
    go_wp2_with fail
    refine (Shares_bad A cap zs _ HI.out (by omega) HK.out).mono ?_
    rintro e W' ⟨rfl, rfl⟩
    go_wp2_with fail
    refine (Divide_bad c A cap zs _ HI.out (by omega) c0 (by omega) HK.out).mono ?_
    rintro e W' ⟨rfl, rfl⟩
    generalize cw zs = q at hkb
    go_wp2_with fail
    refine (measures_any _).mono ?_
    rintro e W4 ⟨rfl, hb4⟩
    have HB4 := Lib.hid (HB.out.trans (hb4.mono HB.out.size))
    clear hb4
    go_wp2_with fail
    go_ret
    exact ⟨rfl, HB4.out⟩
end Go.Proofs.Ytadfoaopamlnpaa
