/- count: a letter that was sent is counted in its row. -/
import Derived.Test.YtecbejmeejepmaaStepsP
import Derived.Test.YtecbejmeejepmaaRow
import Derived.Test.YtecbejmeejepmaaDet
import Derived.Deep.Cut
import Derived.Deep.CutBlock
import Derived.Deep.DeepCutAuto
import Derived.StillTailTactics
namespace Go.Proofs.Ytecbejmeejepmaa
set_option linter.unusedVariables false
open Go.RowKit

def inc (b : Bool) (i j : Nat) : Nat := if decide (j < i) && b then 1 else 0
/-- The row's numbers after i of the four tests. -/
def rowV (r : RowD) (i : Nat) (o c b3 b4 : Bool) : Nat → Nat
  | 2 => r.opened + inc o i 0
  | 3 => r.clicked + inc c i 1
  | 4 => r.bought + inc b3 i 2
  | 5 => r.left + inc b4 i 3
  | _ => r.sent + 1
def rowCs (r : RowD) (i : Nat) (o c b3 b4 : Bool) : Array Value := #[.string ⟨r.letter.toArray⟩, .int .i64 (r.sent + 1), .int .i64 (rowV r i o c b3 b4 2), .int .i64 (rowV r i o c b3 b4 3), .int .i64 (rowV r i o c b3 b4 4), .int .i64 (rowV r i o c b3 b4 5)]
theorem inc_le (b : Bool) (i j : Nat) : inc b i j ≤ 1 := by unfold inc; split <;> omega
theorem rowV_le (r : RowD) (i : Nat) (o c b3 b4 : Bool) (j : Nat) (h1 : r.sent ≤ 1000000) (h2 : r.opened ≤ 1000000) (h3 : r.clicked ≤ 1000000) (h4 : r.bought ≤ 1000000) (h5 : r.left ≤ 1000000) : rowV r i o c b3 b4 j ≤ 1000001 := by
  unfold rowV
  have := inc_le o i 0
  have := inc_le c i 1
  have := inc_le b3 i 2
  have := inc_le b4 i 3
  split <;> omega
theorem gr_set {w wr : World} {q : Nat} {o : Nat} {v : Value} (h : w.grownBy wr (some q)) : w.grownBy (wr.setCell ⟨q, o, none⟩ v) (some q) :=
  ⟨h.os, h.tape, h.output, by simpa [World.setCell] using h.size, fun b hb hne => (Below.heap_setCell wr _ v b (fun e => hne (by rw [show b = q from e]))).trans (h.block b hb hne)⟩
theorem gr_alloc {w wr : World} {row : Option Nat} (h : w.grownBy wr row) (o : Obj) : w.grownBy (wr.alloc o) row :=
  ⟨h.os, h.tape, h.output, by have := h.size; simp; omega, fun b hb hne => (heap_lt (Nat.lt_of_lt_of_le hb h.size)).trans (h.block b hb hne)⟩
theorem gr_drew {w wr : World} {row : Option Nat} (h : w.grownBy wr row) : w.grownBy wr.drew row := ⟨h.os, h.tape, h.output, h.size, h.block⟩
def rowCells (r : RowD) : Array Value := #[.string ⟨r.letter.toArray⟩, .int .i64 r.sent, .int .i64 r.opened, .int .i64 r.clicked, .int .i64 r.bought, .int .i64 r.left]
/-- What is so at the head of the loop. -/
structure CI (w : World) (q sb : Nat) (r : RowD) (o c b3 b4 : Bool) (i : Nat) (wr : World) : Prop where
  row : wr.heap[q]? = some (.cells (rowCs r i o c b3 b4) 36 (0, 0))
  sl : wr.heap[sb]? = some (.cells #[.bool o, .pointer (some ⟨q, 2, none⟩), .bool c, .pointer (some ⟨q, 3, none⟩), .bool b3, .pointer (some ⟨q, 4, none⟩), .bool b4, .pointer (some ⟨q, 5, none⟩)] 69 (0, 0))
  gr : w.grownBy wr (some q)
  le : w.heap.size ≤ sb
section
variable {w wr : World} {q sb : Nat} {r : RowD} {o c b3 b4 : Bool} {i : Nat}
theorem CI.alloc (h : CI w q sb r o c b3 b4 i wr) (ob : Obj) : CI w q sb r o c b3 b4 i (wr.alloc ob) :=
  ⟨(heap_lt (lt_of_heap h.row)).trans h.row, (heap_lt (lt_of_heap h.sl)).trans h.sl, gr_alloc h.gr ob, h.le⟩
theorem CI.same0 (h : CI w q sb r o c b3 b4 0 wr) (hf : o = false) : CI w q sb r o c b3 b4 1 wr := by
  refine ⟨?_, h.sl, h.gr, h.le⟩
  rw [h.row]
  simp [rowCs, rowV, inc, hf]
theorem CI.upd0 (h : CI w q sb r o c b3 b4 0 wr) (hf : o = true) : CI w q sb r o c b3 b4 1 (wr.setCell ⟨q, 2, none⟩ (.int .i64 ((rowV r 0 o c b3 b4 2 : Nat) + 1))) := by
  have hq := lt_of_heap h.row
  refine ⟨?_, ?_, ?_, h.le⟩
  · simp [World.setCell, Array.getElem?_modify, h.row, rowCs, rowV, inc, hf]
  · refine (Below.heap_setCell wr _ _ sb (fun e => ?_)).trans h.sl
    have e' : sb = q := e
    have h1 := h.row
    rw [← e', h.sl] at h1
    simp [rowCs] at h1
  · exact gr_set h.gr
theorem CI.same1 (h : CI w q sb r o c b3 b4 1 wr) (hf : c = false) : CI w q sb r o c b3 b4 2 wr := by
  refine ⟨?_, h.sl, h.gr, h.le⟩
  rw [h.row]
  simp [rowCs, rowV, inc, hf]
theorem CI.upd1 (h : CI w q sb r o c b3 b4 1 wr) (hf : c = true) : CI w q sb r o c b3 b4 2 (wr.setCell ⟨q, 3, none⟩ (.int .i64 ((rowV r 1 o c b3 b4 3 : Nat) + 1))) := by
  have hq := lt_of_heap h.row
  refine ⟨?_, ?_, ?_, h.le⟩
  · simp [World.setCell, Array.getElem?_modify, h.row, rowCs, rowV, inc, hf]
  · refine (Below.heap_setCell wr _ _ sb (fun e => ?_)).trans h.sl
    have e' : sb = q := e
    have h1 := h.row
    rw [← e', h.sl] at h1
    simp [rowCs] at h1
  · exact gr_set h.gr
theorem CI.same2 (h : CI w q sb r o c b3 b4 2 wr) (hf : b3 = false) : CI w q sb r o c b3 b4 3 wr := by
  refine ⟨?_, h.sl, h.gr, h.le⟩
  rw [h.row]
  simp [rowCs, rowV, inc, hf]
theorem CI.upd2 (h : CI w q sb r o c b3 b4 2 wr) (hf : b3 = true) : CI w q sb r o c b3 b4 3 (wr.setCell ⟨q, 4, none⟩ (.int .i64 ((rowV r 2 o c b3 b4 4 : Nat) + 1))) := by
  have hq := lt_of_heap h.row
  refine ⟨?_, ?_, ?_, h.le⟩
  · simp [World.setCell, Array.getElem?_modify, h.row, rowCs, rowV, inc, hf]
  · refine (Below.heap_setCell wr _ _ sb (fun e => ?_)).trans h.sl
    have e' : sb = q := e
    have h1 := h.row
    rw [← e', h.sl] at h1
    simp [rowCs] at h1
  · exact gr_set h.gr
theorem CI.same3 (h : CI w q sb r o c b3 b4 3 wr) (hf : b4 = false) : CI w q sb r o c b3 b4 4 wr := by
  refine ⟨?_, h.sl, h.gr, h.le⟩
  rw [h.row]
  simp [rowCs, rowV, inc, hf]
theorem CI.upd3 (h : CI w q sb r o c b3 b4 3 wr) (hf : b4 = true) : CI w q sb r o c b3 b4 4 (wr.setCell ⟨q, 5, none⟩ (.int .i64 ((rowV r 3 o c b3 b4 5 : Nat) + 1))) := by
  have hq := lt_of_heap h.row
  refine ⟨?_, ?_, ?_, h.le⟩
  · simp [World.setCell, Array.getElem?_modify, h.row, rowCs, rowV, inc, hf]
  · refine (Below.heap_setCell wr _ _ sb (fun e => ?_)).trans h.sl
    have e' : sb = q := e
    have h1 := h.row
    rw [← e', h.sl] at h1
    simp [rowCs] at h1
  · exact gr_set h.gr
theorem CI.all (h : CI w q sb r o c b3 b4 4 wr) (b1 b2 : Bool) (ho : o = (b1 || (b2 || b3))) (hc : c = (b2 || b3)) : wr.heap[q]? = some (.cells (rowCells (stepRow r b1 b2 b3 b4)) 36 (0, 0)) := by
  rw [h.row]
  subst ho hc
  simp [rowCs, rowV, inc, rowCells, stepRow]
end
set_option maxHeartbeats 4000000 in
set_option maxRecDepth 20000 in
theorem count_any (q : Nat) (r : RowD) (b0 b1 b2 b3 b4 : Bool) (w : World) (hq : w.heap[q]? = some (.cells (rowCells r) 36 (0, 0))) (h1 : r.sent ≤ 1000000) (h2 : r.opened ≤ 1000000) (h3 : r.clicked ≤ 1000000) (h4 : r.bought ≤ 1000000) (h5 : r.left ≤ 1000000) :
    Calls Try.prog 19 #[.pointer (some ⟨q, 0, none⟩), .agg #[.bool b0, .bool b1, .bool b2, .bool b3, .bool b4]] w fun e w' => e = .returned (.tuple #[]) ∧ w'.heap[q]? = some (.cells (rowCells (stepRow r b1 b2 b3 b4)) 36 (0, 0)) ∧ w.grownBy w' (some q) := by
  have HQ := Lib.hid hq
  have hqw : q < w.heap.size := lt_of_heap hq
  have HD : Hid ((w.alloc (.cells #[.bool b0, .bool b1, .bool b2, .bool b3, .bool b4] 53)).heap[w.heap.size]? = some (.cells #[.bool b0, .bool b1, .bool b2, .bool b3, .bool b4] 53 (0, 0))) := heap_at rfl
  have HQ1 : Hid ((w.alloc (.cells #[.bool b0, .bool b1, .bool b2, .bool b3, .bool b4] 53)).heap[q]? = some (.cells (rowCells r) 36 (0, 0))) := (heap_lt hqw).trans hq
  have HG1 := Lib.hid (gr_alloc (World.grownBy.refl w (some q)) (.cells #[.bool b0, .bool b1, .bool b2, .bool b3, .bool b4] 53))
  clear hq
  go_enter Try.func19, Try.ntmps19
  go_upto_region 1 with (fail)
  generalize hdb : w.heap.size = db at HD
  have hne : q ≠ db := by omega
  have HDB := Lib.hid hdb
  clear hdb
  generalize w.alloc _ = W1 at HD HQ1 HG1
  have d1 : W1.cell? ⟨db, 1, none⟩ = some (.bool b1) := by simp [World.cell?, HD.out]
  have d2 : W1.cell? ⟨db, 2, none⟩ = some (.bool b2) := by simp [World.cell?, HD.out]
  have d3 : W1.cell? ⟨db, 3, none⟩ = some (.bool b3) := by simp [World.cell?, HD.out]
  have d4 : W1.cell? ⟨db, 4, none⟩ = some (.bool b4) := by simp [World.cell?, HD.out]
  go_cut [4] (fun s4 wx => s4 = .bool (b2 || b3) ∧ wx = W1)
  case first =>
    cases b2 with
    | true =>
      go_wp2_with fail
      go_meet
      exact ⟨rfl, rfl⟩
    | false =>
      go_wp2_with fail
      go_meet
      exact ⟨by simp, rfl⟩
  case rest =>
    obtain ⟨rfl, rfl⟩ := hcut
    generalize hcc : (b2 || b3) = c
    have HC := Lib.hid hcc
    clear hcc
    have x1 : wc.cell? ⟨q, 1, none⟩ = some (.int .i64 r.sent) := by simp [World.cell?, HQ1.out, rowCells]
    have f1 : wc.frozen? ⟨q, 1, none⟩ = false := by simp [World.frozen?, HQ1.out]
    go_upto_region 3 with (fail)
    clear x1 f1
    have HQ2 : Hid ((wc.setCell ⟨q, 1, none⟩ (.int .i64 (r.sent + 1))).heap[q]? = some (.cells #[.string ⟨r.letter.toArray⟩, .int .i64 (r.sent + 1), .int .i64 r.opened, .int .i64 r.clicked, .int .i64 r.bought, .int .i64 r.left] 36 (0, 0))) := by
      show _ = _
      simp [World.setCell, Array.getElem?_modify, HQ1.out, rowCells]
    have HD2 : Hid ((wc.setCell ⟨q, 1, none⟩ (.int .i64 (r.sent + 1))).heap[db]? = some (.cells #[.bool b0, .bool b1, .bool b2, .bool b3, .bool b4] 53 (0, 0))) := (Below.heap_setCell wc _ _ db (fun e => hne e.symm)).trans HD.out
    have HG2 := Lib.hid (gr_set (o := 1) (v := .int .i64 (r.sent + 1)) HG1.out)
    clear d1 d2 d3 d4 HD HQ1 HG1
    generalize wc.setCell _ _ = W2 at HQ2 HD2 HG2
    have d1 : W2.cell? ⟨db, 1, none⟩ = some (.bool b1) := by simp [World.cell?, HD2.out]
    have d3 : W2.cell? ⟨db, 3, none⟩ = some (.bool b3) := by simp [World.cell?, HD2.out]
    have d4 : W2.cell? ⟨db, 4, none⟩ = some (.bool b4) := by simp [World.cell?, HD2.out]
    have HCI : Hid (∀ o, CI w q W2.heap.size r o c b3 b4 0 (W2.alloc (.cells #[.bool o, .pointer (some ⟨q, 2, none⟩), .bool c, .pointer (some ⟨q, 3, none⟩), .bool b3, .pointer (some ⟨q, 4, none⟩), .bool b4, .pointer (some ⟨q, 5, none⟩)] 69)).drew) := fun o =>
      ⟨by
        have h := (heap_lt (o := .cells #[.bool o, .pointer (some ⟨q, 2, none⟩), .bool c, .pointer (some ⟨q, 3, none⟩), .bool b3, .pointer (some ⟨q, 4, none⟩), .bool b4, .pointer (some ⟨q, 5, none⟩)] 69) (lt_of_heap HQ2.out)).trans HQ2.out
        simpa [rowCs, rowV, inc, World.drew] using h, heap_at (w := W2) rfl, gr_drew (gr_alloc HG2.out _), HG2.out.size⟩
    have hqw2 : q < W2.heap.size := lt_of_heap HQ2.out
    go_cut [46, 47, 48] (fun s46 s47 s48 wx => s46 = .slice (some ⟨W2.heap.size, 0, none⟩) 4 4 ∧ s47 = .int .i64 4 ∧ s48 = .int .i64 0 ∧ Hid (CI w q W2.heap.size r (b1 || c) c b3 b4 0 wx))
    case first =>
      cases b1 with
      | true =>
        go_region
        go_wp2_with fail
        go_meet
        exact ⟨rfl, rfl, rfl, HCI.out _⟩
      | false =>
        go_region
        go_wp2_with fail
        go_meet
        exact ⟨rfl, rfl, rfl, HCI.out _⟩
    case rest =>
      obtain ⟨rfl, rfl, rfl, hci0⟩ := hcut
      clear HCI d1 d3 d4
      generalize hoo : (b1 || c) = o at hci0
      have HOO := Lib.hid hoo
      clear hoo
      generalize W2.heap.size = sb at hci0
      go_wp2_with fail
      go_loopw [48] (fun t wr => ∃ (i : Nat) (z : Int), i ≤ 4 ∧ z = i ∧ t = .int .i64 z ∧ Hid (CI w q sb r o c b3 b4 i wr)) (fun t _ => 4 - (intOf t).toNat)
      case atStart => exact ⟨0, 0, by omega, rfl, rfl, hci0⟩
      case round =>
        obtain ⟨i, z, hi, hz, rfl, hci⟩ := hrel
        clear hci0
        have hcs : i = 0 ∨ i = 1 ∨ i = 2 ∨ i = 3 ∨ i = 4 := by omega
        rcases hcs with rfl | rfl | rfl | rfl | rfl
        · obtain rfl : z = 0 := by simpa using hz
          clear hz
          have k0 : wr.cell? ⟨sb, 0, none⟩ = some (.bool o) := by simp [World.cell?, hci.out.sl]
          have k1 : wr.cell? ⟨sb, 1, none⟩ = some (.pointer (some ⟨q, 2, none⟩)) := by simp [World.cell?, hci.out.sl]
          have hsb : sb < wr.heap.size := lt_of_heap hci.out.sl
          have hqw : q < wr.heap.size := lt_of_heap hci.out.row
          have HA := Lib.hid (hci.out.alloc (.cells #[.bool o, .pointer (some ⟨q, 2, none⟩)] 69))
          go_upto_region 6 with (fail)
          clear k0 k1
          have HB0 : Hid ((wr.alloc (.cells #[.bool o, .pointer (some ⟨q, 2, none⟩)] 69)).heap[wr.heap.size]? = some (.cells #[.bool o, .pointer (some ⟨q, 2, none⟩)] 69 (0, 0))) := heap_at rfl
          generalize hg : wr.heap.size = g at HB0
          generalize wr.alloc _ = W2 at HA HB0
          have y0 : W2.cell? ⟨g, 0, none⟩ = some (.bool o) := by simp [World.cell?, HB0.out]
          have y1 : W2.cell? ⟨g, 1, none⟩ = some (.pointer (some ⟨q, 2, none⟩)) := by simp [World.cell?, HB0.out]
          have y2 : W2.cell? ⟨q, 2, none⟩ = some (.int .i64 (rowV r 0 o c b3 b4 2)) := by simp [World.cell?, HA.out.row, rowCs]
          have f2 : W2.frozen? ⟨q, 2, none⟩ = false := by simp [World.frozen?, HA.out.row]
          have hbd : (rowV r 0 o c b3 b4 2 : Int) ≤ 2000000 := by have := rowV_le r 0 o c b3 b4 2 h1 h2 h3 h4 h5; omega
          clear hg hsb hqw
          by_cases hf : o = true
          · skip
            have HU := Lib.hid (HA.out.upd0 hf)
            rw [hf] at y0
            generalize rowV r 0 o c b3 b4 2 = n0 at y2 hbd HU
            clear hf
            go_wp2_with fail
            go_roundw
            case rel => exact ⟨1, 1, by omega, rfl, rfl, HU⟩
            case measure => simp [intOf]
          · replace hf : o = false := by simpa using hf
            have HU := Lib.hid (HA.out.same0 hf)
            rw [hf] at y0
            clear hf y1 y2 f2 hbd
            go_wp2_with fail
            go_roundw
            case rel => exact ⟨1, 1, by omega, rfl, rfl, HU⟩
            case measure => simp [intOf]
        · obtain rfl : z = 1 := by simpa using hz
          clear hz
          have k0 : wr.cell? ⟨sb, 2, none⟩ = some (.bool c) := by simp [World.cell?, hci.out.sl]
          have k1 : wr.cell? ⟨sb, 3, none⟩ = some (.pointer (some ⟨q, 3, none⟩)) := by simp [World.cell?, hci.out.sl]
          have hsb : sb < wr.heap.size := lt_of_heap hci.out.sl
          have hqw : q < wr.heap.size := lt_of_heap hci.out.row
          have HA := Lib.hid (hci.out.alloc (.cells #[.bool c, .pointer (some ⟨q, 3, none⟩)] 69))
          go_upto_region 6 with (fail)
          clear k0 k1
          have HB0 : Hid ((wr.alloc (.cells #[.bool c, .pointer (some ⟨q, 3, none⟩)] 69)).heap[wr.heap.size]? = some (.cells #[.bool c, .pointer (some ⟨q, 3, none⟩)] 69 (0, 0))) := heap_at rfl
          generalize hg : wr.heap.size = g at HB0
          generalize wr.alloc _ = W2 at HA HB0
          have y0 : W2.cell? ⟨g, 0, none⟩ = some (.bool c) := by simp [World.cell?, HB0.out]
          have y1 : W2.cell? ⟨g, 1, none⟩ = some (.pointer (some ⟨q, 3, none⟩)) := by simp [World.cell?, HB0.out]
          have y2 : W2.cell? ⟨q, 3, none⟩ = some (.int .i64 (rowV r 1 o c b3 b4 3)) := by simp [World.cell?, HA.out.row, rowCs]
          have f2 : W2.frozen? ⟨q, 3, none⟩ = false := by simp [World.frozen?, HA.out.row]
          have hbd : (rowV r 1 o c b3 b4 3 : Int) ≤ 2000000 := by have := rowV_le r 1 o c b3 b4 3 h1 h2 h3 h4 h5; omega
          clear hg hsb hqw
          by_cases hf : c = true
          · skip
            have HU := Lib.hid (HA.out.upd1 hf)
            rw [hf] at y0
            generalize rowV r 1 o c b3 b4 3 = n0 at y2 hbd HU
            clear hf
            go_wp2_with fail
            go_roundw
            case rel => exact ⟨2, 2, by omega, rfl, rfl, HU⟩
            case measure => simp [intOf]
          · replace hf : c = false := by simpa using hf
            have HU := Lib.hid (HA.out.same1 hf)
            rw [hf] at y0
            clear hf y1 y2 f2 hbd
            go_wp2_with fail
            go_roundw
            case rel => exact ⟨2, 2, by omega, rfl, rfl, HU⟩
            case measure => simp [intOf]
        · obtain rfl : z = 2 := by simpa using hz
          clear hz
          have k0 : wr.cell? ⟨sb, 4, none⟩ = some (.bool b3) := by simp [World.cell?, hci.out.sl]
          have k1 : wr.cell? ⟨sb, 5, none⟩ = some (.pointer (some ⟨q, 4, none⟩)) := by simp [World.cell?, hci.out.sl]
          have hsb : sb < wr.heap.size := lt_of_heap hci.out.sl
          have hqw : q < wr.heap.size := lt_of_heap hci.out.row
          have HA := Lib.hid (hci.out.alloc (.cells #[.bool b3, .pointer (some ⟨q, 4, none⟩)] 69))
          go_upto_region 6 with (fail)
          clear k0 k1
          have HB0 : Hid ((wr.alloc (.cells #[.bool b3, .pointer (some ⟨q, 4, none⟩)] 69)).heap[wr.heap.size]? = some (.cells #[.bool b3, .pointer (some ⟨q, 4, none⟩)] 69 (0, 0))) := heap_at rfl
          generalize hg : wr.heap.size = g at HB0
          generalize wr.alloc _ = W2 at HA HB0
          have y0 : W2.cell? ⟨g, 0, none⟩ = some (.bool b3) := by simp [World.cell?, HB0.out]
          have y1 : W2.cell? ⟨g, 1, none⟩ = some (.pointer (some ⟨q, 4, none⟩)) := by simp [World.cell?, HB0.out]
          have y2 : W2.cell? ⟨q, 4, none⟩ = some (.int .i64 (rowV r 2 o c b3 b4 4)) := by simp [World.cell?, HA.out.row, rowCs]
          have f2 : W2.frozen? ⟨q, 4, none⟩ = false := by simp [World.frozen?, HA.out.row]
          have hbd : (rowV r 2 o c b3 b4 4 : Int) ≤ 2000000 := by have := rowV_le r 2 o c b3 b4 4 h1 h2 h3 h4 h5; omega
          clear hg hsb hqw
          by_cases hf : b3 = true
          · skip
            have HU := Lib.hid (HA.out.upd2 hf)
            rw [hf] at y0
            generalize rowV r 2 o c b3 b4 4 = n0 at y2 hbd HU
            clear hf
            go_wp2_with fail
            go_roundw
            case rel => exact ⟨3, 3, by omega, rfl, rfl, HU⟩
            case measure => simp [intOf]
          · replace hf : b3 = false := by simpa using hf
            have HU := Lib.hid (HA.out.same2 hf)
            rw [hf] at y0
            clear hf y1 y2 f2 hbd
            go_wp2_with fail
            go_roundw
            case rel => exact ⟨3, 3, by omega, rfl, rfl, HU⟩
            case measure => simp [intOf]
        · obtain rfl : z = 3 := by simpa using hz
          clear hz
          have k0 : wr.cell? ⟨sb, 6, none⟩ = some (.bool b4) := by simp [World.cell?, hci.out.sl]
          have k1 : wr.cell? ⟨sb, 7, none⟩ = some (.pointer (some ⟨q, 5, none⟩)) := by simp [World.cell?, hci.out.sl]
          have hsb : sb < wr.heap.size := lt_of_heap hci.out.sl
          have hqw : q < wr.heap.size := lt_of_heap hci.out.row
          have HA := Lib.hid (hci.out.alloc (.cells #[.bool b4, .pointer (some ⟨q, 5, none⟩)] 69))
          go_upto_region 6 with (fail)
          clear k0 k1
          have HB0 : Hid ((wr.alloc (.cells #[.bool b4, .pointer (some ⟨q, 5, none⟩)] 69)).heap[wr.heap.size]? = some (.cells #[.bool b4, .pointer (some ⟨q, 5, none⟩)] 69 (0, 0))) := heap_at rfl
          generalize hg : wr.heap.size = g at HB0
          generalize wr.alloc _ = W2 at HA HB0
          have y0 : W2.cell? ⟨g, 0, none⟩ = some (.bool b4) := by simp [World.cell?, HB0.out]
          have y1 : W2.cell? ⟨g, 1, none⟩ = some (.pointer (some ⟨q, 5, none⟩)) := by simp [World.cell?, HB0.out]
          have y2 : W2.cell? ⟨q, 5, none⟩ = some (.int .i64 (rowV r 3 o c b3 b4 5)) := by simp [World.cell?, HA.out.row, rowCs]
          have f2 : W2.frozen? ⟨q, 5, none⟩ = false := by simp [World.frozen?, HA.out.row]
          have hbd : (rowV r 3 o c b3 b4 5 : Int) ≤ 2000000 := by have := rowV_le r 3 o c b3 b4 5 h1 h2 h3 h4 h5; omega
          clear hg hsb hqw
          by_cases hf : b4 = true
          · skip
            have HU := Lib.hid (HA.out.upd3 hf)
            rw [hf] at y0
            generalize rowV r 3 o c b3 b4 5 = n0 at y2 hbd HU
            clear hf
            go_wp2_with fail
            go_roundw
            case rel => exact ⟨4, 4, by omega, rfl, rfl, HU⟩
            case measure => simp [intOf]
          · replace hf : b4 = false := by simpa using hf
            have HU := Lib.hid (HA.out.same3 hf)
            rw [hf] at y0
            clear hf y1 y2 f2 hbd
            go_wp2_with fail
            go_roundw
            case rel => exact ⟨4, 4, by omega, rfl, rfl, HU⟩
            case measure => simp [intOf]
        · obtain rfl : z = 4 := by simpa using hz
          clear hz
          have HF := Lib.hid (hci.out.all b1 b2 (by rw [← HOO.out, ← HC.out]) HC.out.symm)
          have HG := Lib.hid hci.out.gr
          go_wp2_with fail
          go_end0
          exact ⟨rfl, HF.out, HG.out⟩
end Go.Proofs.Ytecbejmeejepmaa
