/- The law StepsFall returns true, whatever its numbers. -/
import Derived.Test.YtecbejmeejepmaaMakeActs
import Derived.Test.YtecbejmeejepmaaMeasures
namespace Go.Proofs.Ytecbejmeejepmaa
set_option linter.unusedVariables false
open Go.RowKit
theorem rowsOf_len (ss : List SentD) (ac : List ActD) (s s' : Int) : (rowsOf ss ac s).length = (rowsOf ss ac s').length := by simp [rowsOf]
/-- A row of more time has no less. -/
def RowLe (x y : RowD) : Prop := x.opened ≤ x.sent ∧ x.clicked ≤ x.opened ∧ x.bought ≤ x.clicked ∧ x.left ≤ x.sent ∧ x.sent = y.sent ∧ x.opened ≤ y.opened ∧ x.clicked ≤ y.clicked ∧ x.bought ≤ y.bought ∧ x.left ≤ y.left
theorem rowsOf_at (ss : List SentD) (ac : List ActD) (s : Int) (i : Nat) (h : i < (rowsOf ss ac s).length) (h' : i < ((lets ss ss.length).mergeSort leB).length) : (rowsOf ss ac s)[i] = rowN ss (didB ss ac s) (((lets ss ss.length).mergeSort leB)[i]) ss.length := List.getElem_map _
theorem rows_le (ss : List SentD) (ac : List ActD) {s s' : Int} (h : s ≤ s') (i : Nat) (h1 : i < (rowsOf ss ac s).length) (h2 : i < (rowsOf ss ac s').length) : RowLe (rowsOf ss ac s)[i] (rowsOf ss ac s')[i] := by
  have h3 : i < ((lets ss ss.length).mergeSort leB).length := by
    have := h1
    unfold rowsOf at this
    rw [List.length_map] at this
    exact this
  rw [rowsOf_at ss ac s i h1 h3, rowsOf_at ss ac s' i h2 h3]
  generalize ((lets ss ss.length).mergeSort leB)[i] = k
  obtain ⟨a1, a2, a3, a4⟩ := row_falls ss (didB ss ac s) k ss.length
  obtain ⟨b1, b2, b3, b4, b5⟩ := row_grows (ss := ss) (d := didB ss ac s) (d' := didB ss ac s') (fun i j hd => didB_mono h hd) k ss.length
  exact ⟨a1, a2, a3, a4, b1, b2, b3, b4, b5⟩
theorem rowsOf_le (ss : List SentD) (ac : List ActD) (s : Int) : (rowsOf ss ac s).length ≤ ss.length := by
  simp only [rowsOf, List.length_map, List.length_mergeSort]
  exact lets_len ss ss.length
set_option maxHeartbeats 8000000 in
set_option maxRecDepth 100000 in
theorem stepsFall_walk (a0 : Option Addr) (len0 cap0 : Nat) (z0 : List Int) (w : World) (w0 : IsRow .i64 w a0 len0 cap0 z0) :
    Calls Try.prog 3 #[.slice a0 len0 cap0] w fun e w' => e = .returned (.bool true) ∧ Below w.heap.size w w' := by
  have L := Lw.new w0
  go_enter Try.func3, Try.ntmps3
  go_wp2_with fail
  refine (L.sentList (by omega)).mono ?_
  rintro e W1 ⟨v, ss, rfl, C, hsl, hsz⟩
  obtain ⟨A, cap, H2, hv, hlec, q1, q2, hR, q3, -⟩ := C.row.freeze Frz.empty
  subst hv
  have L2 : Lw w w.heap.size 120 H2 W1 := ⟨C.lw.st.more (by omega), C.lw.bel, C.lw.le, q1 C.lw.fin, by rw [q3 _ C.2.2.2.1]; exact C.lw.apart⟩
  have HL2 := Lib.hid L2
  have HR := Lib.hid hR
  have HS := Lib.hid hsz
  clear L C q1 q2 q3 hR L2 hsz w0
  go_wp2_with fail
  refine (HL2.out.acts (by omega) A cap ss HR.out HS.out (by omega) hlec).mono ?_
  rintro e W2 ⟨v2, ac, rfl, C2, hal, hsa⟩
  obtain ⟨A2, cap2, H3, hv2, hlec2, q1, q2, hR2, q3, -⟩ := C2.row.freeze H2
  subst hv2
  have le3 := q2 C2.2.2.1
  have L3 : Lw w w.heap.size 420 H3 W2 := ⟨C2.lw.st.more (by omega), C2.lw.bel, C2.lw.le, q1 C2.lw.fin, by rw [q3 _ C2.2.2.2.1]; exact C2.lw.apart⟩
  have HL3 := Lib.hid L3
  have HR3 := Lib.hid (HR.out.le le3)
  have HRA := Lib.hid hR2
  have HSA := Lib.hid hsa
  clear C2 q1 q2 q3 hR2 L3 hsa le3 HL2 HR
  go_wp2_with fail
  refine (HL3.out.next' 300 (by omega) (by omega) (by omega)).mono ?_
  rintro e W3 ⟨wi, rfl, w0, w1, L4, -, -⟩
  have HL4 := Lib.hid L4
  clear L4 HL3
  go_wp2_with fail
  refine (steps_any H3 A cap ss A2 cap2 ac wi W3 HL4.out.fin HR3.out HRA.out HS.out HSA.out (by omega) hlec (by omega) hlec2 w0 (by omega)).mono ?_
  rintro e W4 ⟨hb4, ⟨k, hk0, hse, rfl⟩ | ⟨hse, va, rfl, hOa⟩⟩
  · have HL5 := Lib.hid (HL4.out.call hb4)
    have HSE := Lib.hid hse
    clear hb4 hse HL4
    go_wp2_with fail
    refine (HL5.out.next' 300 (by omega) (by omega) (by omega)).mono ?_
    rintro e W5 ⟨wj, rfl, j0, j1, L6, -, -⟩
    have HL6 := Lib.hid L6
    clear L6 HL5
    go_wp2_with fail
    refine (steps_any H3 A cap ss A2 cap2 ac (wi + wj) W5 HL6.out.fin HR3.out HRA.out HS.out HSA.out (by omega) hlec (by omega) hlec2 (by omega) (by omega)).mono ?_
    rintro e W6 ⟨hb6, ⟨k', hk0', hse', rfl⟩ | ⟨hse', _⟩⟩
    · obtain rfl : k = k' := HSE.out.one hse'
      have HL7 := Lib.hid (HL6.out.call hb6)
      have hkk : (k != k) = false := by simp
      clear hb6 hse' HL6 HSE
      go_wp2_with fail
      go_loopw [53] (fun t wr => t = .int .i64 0 ∧ Hid (Below w.heap.size w wr)) (fun _ _ => 0)
      case atStart => exact ⟨rfl, HL7.out.bel⟩
      case round =>
        obtain ⟨rfl, hbw⟩ := hrel
        go_wp2_with fail
        refine (measures_any _).mono ?_
        rintro e W7 ⟨rfl, hb7⟩
        have HF := Lib.hid (hbw.out.trans (hb7.mono hbw.out.size))
        clear hb7
        go_wp2_with fail
        go_ret
        exact ⟨rfl, HF.out⟩
    · exact absurd (HSE.out.one hse') hk0
  · obtain ⟨Aa, capa, H5, hva, hla, q1, q2, hRa, q3, -⟩ := hOa.freeze H3
    subst hva
    have hL5 := HL4.out.call hb4
    have le5 := q2 (fun g hg => HL4.out.fin.none_ (hOa.lt hg).1)
    have L5 : Lw w w.heap.size 421 H5 W4 := ⟨hL5.st.more (by omega), hL5.bel, hL5.le, q1 hL5.fin, by rw [q3 _ HL4.out.lt]; exact hL5.apart⟩
    have HL5 := Lib.hid L5
    have HR5 := Lib.hid (HR3.out.le le5)
    have HRA5 := Lib.hid (HRA.out.le le5)
    have HRWA := Lib.hid hRa
    have HSE := Lib.hid hse
    clear hb4 hse HL4 hL5 L5 le5 q1 q2 q3 hRa hOa HR3 HRA
    go_wp2_with fail
    refine (HL5.out.next' 300 (by omega) (by omega) (by omega)).mono ?_
    rintro e W5 ⟨wj, rfl, j0, j1, L6, -, -⟩
    have HL6 := Lib.hid L6
    clear L6 HL5
    go_wp2_with fail
    refine (steps_any H5 A cap ss A2 cap2 ac (wi + wj) W5 HL6.out.fin HR5.out HRA5.out HS.out HSA.out (by omega) hlec (by omega) hlec2 (by omega) (by omega)).mono ?_
    rintro e W6 ⟨hb6, ⟨k', hk0', hse', rfl⟩ | ⟨_, vb, rfl, hOb⟩⟩
    · exact absurd (hse'.one HSE.out) hk0'
    · obtain ⟨Ab, capb, H7, hvb, hlb, q1, q2, hRb, q3, -⟩ := hOb.freeze H5
      subst hvb
      have hlen : (rowsOf ss ac (wi + wj)).length = (rowsOf ss ac wi).length := rowsOf_len ss ac _ _
      have hlr := rowsOf_le ss ac wi
      have HLE := Lib.hid (fun i h1 h2 => rows_le ss ac (s := wi) (s' := wi + wj) (by omega) i h1 h2)
      have le7 := q2 (fun g hg => HL6.out.fin.none_ (hOb.lt hg).1)
      have HIN7 := Lib.hid (q1 (HL6.out.call hb6).fin)
      have HBE := Lib.hid (HL6.out.call hb6).bel
      have HRA7 := Lib.hid (HRWA.out.le le7)
      have HRB7 := Lib.hid hRb
      rw [hlen] at hlb
      rw [hlen]
      generalize rowsOf ss ac (wi + wj) = rb at *
      generalize rowsOf ss ac wi = ra at *
      have HLEN := Lib.hid hlen
      clear hb6 q1 q2 q3 hRb hOb le7 HRWA HL6 hlen HR5 HRA5
      go_wp2_with fail
      go_loopw [53] (fun t wr => ∃ i : Nat, i ≤ ra.length ∧ t = .int .i64 i ∧ Hid (Below W6.heap.size W6 wr)) (fun t _ => ra.length - (intOf t).toNat)
      case atStart => exact ⟨0, by omega, rfl, Below.refl _ _⟩
      case round =>
        obtain ⟨i, hi, rfl, hbw⟩ := hrel
        by_cases hlt : i < ra.length
        · have hin := HIN7.out.below hbw.out
          have hlt2 : i < rb.length := by rw [HLEN.out]; exact hlt
          obtain ⟨ba, oa, hAa, hbla, hca⟩ := HRA7.out.at_ hin hlt (by omega)
          obtain ⟨bb, ob, hAb, hblb, hcb⟩ := HRB7.out.at_ hin hlt2 (by omega)
          subst hAa hAb
          obtain ⟨r1, r2, r3, r4, r5, r6, r7, r8, r9⟩ := HLE.out i hlt hlt2
          have c0 : wr.cell? ⟨ba, oa + i * 6, none⟩ = some (.string ⟨ra[i].letter.toArray⟩) := hca 0 (by omega)
          have c1 : wr.cell? ⟨ba, oa + i * 6 + 1, none⟩ = some (.int .i64 ra[i].sent) := hca 1 (by omega)
          have c2 : wr.cell? ⟨ba, oa + i * 6 + 2, none⟩ = some (.int .i64 ra[i].opened) := hca 2 (by omega)
          have c3 : wr.cell? ⟨ba, oa + i * 6 + 3, none⟩ = some (.int .i64 ra[i].clicked) := hca 3 (by omega)
          have c4 : wr.cell? ⟨ba, oa + i * 6 + 4, none⟩ = some (.int .i64 ra[i].bought) := hca 4 (by omega)
          have c5 : wr.cell? ⟨ba, oa + i * 6 + 5, none⟩ = some (.int .i64 ra[i].left) := hca 5 (by omega)
          have d0 : wr.cell? ⟨bb, ob + i * 6, none⟩ = some (.string ⟨rb[i].letter.toArray⟩) := hcb 0 (by omega)
          have d1 : wr.cell? ⟨bb, ob + i * 6 + 1, none⟩ = some (.int .i64 rb[i].sent) := hcb 1 (by omega)
          have d2 : wr.cell? ⟨bb, ob + i * 6 + 2, none⟩ = some (.int .i64 rb[i].opened) := hcb 2 (by omega)
          have d3 : wr.cell? ⟨bb, ob + i * 6 + 3, none⟩ = some (.int .i64 rb[i].clicked) := hcb 3 (by omega)
          have d4 : wr.cell? ⟨bb, ob + i * 6 + 4, none⟩ = some (.int .i64 rb[i].bought) := hcb 4 (by omega)
          have d5 : wr.cell? ⟨bb, ob + i * 6 + 5, none⟩ = some (.int .i64 rb[i].left) := hcb 5 (by omega)
          rw [← r5] at d1
          generalize ra[i] = x at *
          generalize rb[i] = y at *
          have HB9 := Lib.hid ((hbw.out.alloc hbw.out.size (.cells #[.string ⟨x.letter.toArray⟩, .int .i64 x.sent, .int .i64 x.opened, .int .i64 x.clicked, .int .i64 x.bought, .int .i64 x.left] 36)).alloc (hbw.out.alloc hbw.out.size (.cells #[.string ⟨x.letter.toArray⟩, .int .i64 x.sent, .int .i64 x.opened, .int .i64 x.clicked, .int .i64 x.bought, .int .i64 x.left] 36)).size (.cells #[.string ⟨y.letter.toArray⟩, .int .i64 x.sent, .int .i64 y.opened, .int .i64 y.clicked, .int .i64 y.bought, .int .i64 y.left] 36))
          clear hca hcb hin r5
          have n0 : decide (x.sent < x.opened) = false := by simp; omega
          have m0 : decide ((x.sent : Int) < (x.opened : Int)) = false := by simp; omega
          have n1 : decide (x.opened < x.clicked) = false := by simp; omega
          have m1 : decide ((x.opened : Int) < (x.clicked : Int)) = false := by simp; omega
          have n2 : decide (x.clicked < x.bought) = false := by simp; omega
          have m2 : decide ((x.clicked : Int) < (x.bought : Int)) = false := by simp; omega
          have n3 : decide (x.sent < x.left) = false := by simp; omega
          have m3 : decide ((x.sent : Int) < (x.left : Int)) = false := by simp; omega
          have n4 : decide (y.opened < x.opened) = false := by simp; omega
          have m4 : decide ((y.opened : Int) < (x.opened : Int)) = false := by simp; omega
          have n5 : decide (y.clicked < x.clicked) = false := by simp; omega
          have m5 : decide ((y.clicked : Int) < (x.clicked : Int)) = false := by simp; omega
          have n6 : decide (y.bought < x.bought) = false := by simp; omega
          have m6 : decide ((y.bought : Int) < (x.bought : Int)) = false := by simp; omega
          have n7 : decide (y.left < x.left) = false := by simp; omega
          have m7 : decide ((y.left : Int) < (x.left : Int)) = false := by simp; omega
          have m9 : decide ((x.bought : Int) < 0) = false := by simp
          have m8 : ((x.sent : Int) != (x.sent : Int)) = false := by simp
          go_wp2_with fail
          go_roundw
          case rel => exact ⟨i + 1, by omega, by go_num, HB9⟩
          case measure => simp [intOf]; omega
        · have hie : i = ra.length := by omega
          subst hie
          have HB := Lib.hid (HBE.out.trans (hbw.out.mono HBE.out.size))
          go_wp2_with fail
          refine (measures_any _).mono ?_
          rintro e W7 ⟨rfl, hb7⟩
          have HF := Lib.hid (HB.out.trans (hb7.mono HB.out.size))
          clear hb7
          go_wp2_with fail
          go_ret
          exact ⟨rfl, HF.out⟩
end Go.Proofs.Ytecbejmeejepmaa
