/- What a stream makes: budgets. -/
import Derived.Test.YtecbejmeejepmaaDoorMakeG
import Derived.Test.YtecbejmeejepmaaDoorBudgets
import Derived.Test.YtecbejmeejepmaaDoorCloneBudget
namespace Go.Proofs.YtecbejmeejepmaaDoor
set_option linter.unusedVariables false
open Go.RowKit
def names3 : List ByteArray := [⟨#[109, 97, 121]⟩, ⟨#[106, 117, 110, 101]⟩, ⟨#[97, 108, 108]⟩]
theorem names3_size (i : Nat) (hi : i < 3) : (names3[i]'hi).size ≤ 1000 := by
  match i, hi with
  | 0, _ => show (3 : Nat) ≤ 1000; omega
  | 1, _ => show (4 : Nat) ≤ 1000; omega
  | 2, _ => show (3 : Nat) ≤ 1000; omega
theorem names3_cell {H : Frz} {W : World} (h : H.In W) {g : Nat} {T : TypeId} (e : H g = some (.cells #[.string ⟨#[109, 97, 121]⟩, .string ⟨#[106, 117, 110, 101]⟩, .string ⟨#[97, 108, 108]⟩] T (0, 0))) (i : Nat) (hi : i < 3) : W.cell? ⟨g, i, none⟩ = some (.string (names3[i]'hi)) := by
  have := h _ _ e
  simp only [World.cell?, this]
  match i, hi with
  | 0, _ => rfl
  | 1, _ => rfl
  | 2, _ => rfl
def KeyB (ds : List BudgetD) : Prop := ∀ d ∈ ds, d.key.size ≤ 1000 ∧ 0 ≤ d.last ∧ d.last ≤ 5000
theorem KeyB.snoc {ds : List BudgetD} (h : KeyB ds) {d : BudgetD} (hd : d.key.size ≤ 1000 ∧ 0 ≤ d.last ∧ d.last ≤ 5000) : KeyB (ds ++ [d]) := by
  intro y hy
  rcases List.mem_append.1 hy with hy | hy
  · exact h y hy
  · simp at hy; rw [hy]; exact hd
theorem KeyB.set {ds : List BudgetD} (h : KeyB ds) {d : BudgetD} {p : Nat} (hd : d.key.size ≤ 1000 ∧ 0 ≤ d.last ∧ d.last ≤ 5000) : KeyB (ds.set p d) := by
  intro y hy
  rcases List.mem_or_eq_of_mem_set hy with hy | hy
  · exact h y hy
  · rw [hy]; exact hd
theorem key3_size {s : ByteArray} (h : s ∈ [(⟨#[]⟩ : ByteArray), ⟨#[109, 97, 121]⟩, ⟨#[77, 97, 121]⟩]) : s.size ≤ 1000 := by
  simp at h
  rcases h with rfl | rfl | rfl
  · show (0 : Nat) ≤ 1000; omega
  · show (3 : Nat) ≤ 1000; omega
  · show (3 : Nat) ≤ 1000; omega
abbrev BM := RM (D := BudgetD) 59 5 fB
def BMPost (w : World) (bs K : Nat) (H : Frz) (B : Nat) (e : Ending) (W' : World) : Prop := ∃ v H' ds, e = .returned v ∧ H.Le H' ∧ BM w bs (K + 40) H' B v ds W' ∧ ds.length ≤ 3 ∧ KeyB ds
set_option maxHeartbeats 4000000 in
set_option maxRecDepth 100000 in
theorem Lw.budgets {w W : World} {bs K : Nat} {H : Frz} (h : Lw w bs K H W) (hK : K ≤ 1000000000) :
    Calls Tryd.prog 19 #[.pointer (some ⟨bs, 0, none⟩)] W (BMPost w bs K H W.heap.size) := by
  obtain ⟨i0, hi0, hz0, hz1, hz2⟩ := info_parts infoBudget
  have hbs := h.lt
  obtain ⟨H1, le1, hA, C1⟩ := (RM.new (T := 59) (k := 5) (f := fB) h).put (.cells #[.string ⟨#[109, 97, 121]⟩, .string ⟨#[106, 117, 110, 101]⟩, .string ⟨#[97, 108, 108]⟩] 9)
  have HA := Lib.hid hA
  have HLE := Lib.hid le1
  have C1 : Hid (BM w bs K H1 W.heap.size (.slice none 0 0) [] _) := Lib.hid C1
  clear h hA le1
  go_enter Tryd.func19, Tryd.ntmps19
  go_wp2_with fail
  generalize World.alloc W _ = WA at C1
  go_loopw [3, 10] (fun v t wr => ∃ (i : Nat) (H' : Frz) (ds : List BudgetD), i ≤ 3 ∧ t = .int .i64 i ∧ Hid (H1.Le H') ∧ Hid (BM w bs (K + 5 * i) H' W.heap.size v ds wr) ∧ ds.length ≤ i ∧ KeyB ds) (fun _ t _ => 3 - (intOf t).toNat)
  case atStart => exact ⟨0, H1, [], by omega, rfl, Frz.Le.refl _, C1, by simp, (by intro d hd; cases hd)⟩
  case round =>
    obtain ⟨i, H2, ds, hi, rfl, hle2, C, hdl, hkb⟩ := hrel
    clear C1
    by_cases hlt : i < 3
    · have di : decide ((i : Int) < 3) = true := by simp; omega
      have ca := names3_cell C.out.lw.fin (hle2.out _ _ HA.out) i hlt
      have hsa := names3_size i hlt
      generalize names3[i]'hlt = sa at ca hsa
      go_wp2_with fail
      refine (C.out.lw.flip 4 (by omega) (by omega)).mono ?_
      rintro e W2 ⟨t, rfl, L2, g2, -⟩
      have C2 := Lib.hid (C.out.asked L2 g2)
      clear L2 g2 C ca
      cases t with
      | true =>
        go_wp2_with fail
        go_roundw
        case rel => exact ⟨i + 1, H2, ds, by omega, by go_num, hle2, C2.out.more (by omega), by omega, hkb⟩
        case measure => simp [intOf]; omega
      | false =>
        obtain ⟨H3, le3, hx3, C3⟩ := C2.out.put (.cells #[.int .i64 0, .int .i64 0, .int .i64 1, .int .i64 5] 3)
        have hI : Ints (W2.alloc (.cells #[.int .i64 0, .int .i64 0, .int .i64 1, .int .i64 5] 3)) (some ⟨W2.heap.size, 0, none⟩) [0, 0, 1, 5] := Ints.of_row (heap_at rfl) rfl
        have hne := C2.out.lw.lt
        have HI := Lib.hid hI
        have C3 := Lib.hid C3
        have HLE3 := Lib.hid (hle2.out.trans le3)
        clear hI hx3 le3
        go_wp2_with fail
        refine (C3.out.lw.pick _ _ [0, 0, 1, 5] HI.out (fun b off e => by injection e with e; injection e with e1 e2; omega) (by simp) (by simp) (by omega)).mono ?_
        rintro e W4 ⟨fi, rfl, hfi, L4, g4, -⟩
        have C4 := Lib.hid (C3.out.asked L4 g4)
        have hf5 : 0 ≤ fi ∧ fi ≤ 5 := by simp at hfi; omega
        clear L4 g4 C2 C3 HI hfi hne
        obtain ⟨H5, le5, hx5, C5⟩ := C4.out.put (.cells #[.int .i64 0, .int .i64 100, .int .i64 1000, .int .i64 1001, .int .i64 1000000000000] 3)
        have hI : Ints (W4.alloc (.cells #[.int .i64 0, .int .i64 100, .int .i64 1000, .int .i64 1001, .int .i64 1000000000000] 3)) (some ⟨W4.heap.size, 0, none⟩) [0, 100, 1000, 1001, 1000000000000] := Ints.of_row (heap_at rfl) rfl
        have hne := C4.out.lw.lt
        have HI := Lib.hid hI
        have C5 := Lib.hid C5
        have HLE5 := Lib.hid (HLE3.out.trans le5)
        clear hI hx5 le5
        go_wp2_with fail
        refine (C5.out.lw.pick _ _ [0, 100, 1000, 1001, 1000000000000] HI.out (fun b off e => by injection e with e; injection e with e1 e2; omega) (by simp) (by simp) (by omega)).mono ?_
        rintro e W6 ⟨ce, rfl, -, L6, g6, -⟩
        have C6 := Lib.hid (C5.out.asked L6 g6)
        clear L6 g6 C4 C5 HI hne
        obtain ⟨H7, le7, hx7, C7⟩ := C6.out.put (.cells #[.int .i64 0, .int .i64 2, .int .i64 9, .int .i64 2000] 3)
        have hI : Ints (W6.alloc (.cells #[.int .i64 0, .int .i64 2, .int .i64 9, .int .i64 2000] 3)) (some ⟨W6.heap.size, 0, none⟩) [0, 2, 9, 2000] := Ints.of_row (heap_at rfl) rfl
        have hne := C6.out.lw.lt
        have HI := Lib.hid hI
        have C7 := Lib.hid C7
        have HLE7 := Lib.hid (HLE5.out.trans le7)
        clear hI hx7 le7
        go_wp2_with fail
        refine (C7.out.lw.pick _ _ [0, 2, 9, 2000] HI.out (fun b off e => by injection e with e; injection e with e1 e2; omega) (by simp) (by simp) (by omega)).mono ?_
        rintro e W8 ⟨la, rfl, hla, L8, g8, -⟩
        have hl5 : 0 ≤ la ∧ la ≤ 2000 := by simp at hla; omega
        have C8 := Lib.hid (C7.out.asked L8 g8)
        clear L8 g8 C6 C7 HI hne hla
        go_wp2_with fail
        refine (C8.out.lw.flip 2 (by omega) (by omega)).mono ?_
        rintro e W9 ⟨pa, rfl, L9, g9, -⟩
        have C9 := Lib.hid (C8.out.asked L9 g9)
        clear L9 g9 C8
        have HOr := Lib.hid C9.out.row
        have HST := Lib.hid (fun v' W' o g1 at1 => C9.out.app (v' := v') (W' := W') (ds' := ds ++ [⟨sa, ce, fi, fi + la, pa⟩]) o g1 at1)
        have hB9 := C9.out.2.2.2.2
        go_wp2_with (at_builtin; refine wpList_app_at rfl _ _ 51 rfl W.heap.size 59 i0 (.agg #[.string ⟨#[]⟩, .int .i64 0, .int .i64 0, .int .i64 0, .bool false]) 5 48 Tryd.underlying51 hi0 hz0 hz1 hz2 rfl (by decide) fB _ ds rfl HOr.out ⟨sa, ce, fi, fi + la, pa⟩ #[.string sa, .int .i64 ce, .int .i64 fi, .int .i64 (fi + la), .bool pa] 59 rfl rfl (by simp [Value.oneCell']) (by omega) (by omega) hB9 ?_; intro v1 w2 o1 g1 b1 at1; have CA := Lib.hid (HST.out v1 w2 o1 g1 at1); clear o1 g1 b1 at1 HST HOr)
        go_roundw
        case rel => exact ⟨i + 1, H7, _, by omega, by go_num, HLE7, CA.out.more (by omega), by simp; omega, hkb.snoc ⟨hsa, by show 0 ≤ fi + la; omega, by show fi + la ≤ 5000; omega⟩⟩
        case measure => simp [intOf]; omega
    · have hie : i = 3 := by omega
      subst hie
      have hdl8 : ds.length ≤ 3 := hdl
      have HLEH := Lib.hid (HLE.out.trans hle2.out)
      go_wp2_with fail
      refine (C.out.lw.flip 10 (by omega) (by omega)).mono ?_
      rintro e W2 ⟨t, rfl, L2, g2, -⟩
      have C2 := Lib.hid (C.out.asked L2 g2)
      clear L2 g2 C
      cases t with
      | false =>
        go_wp2_with fail
        go_ret
        exact ⟨_, H2, ds, rfl, HLEH.out, C2.out.more (by omega), hdl8, hkb⟩
      | true =>
        by_cases hds : ds = []
        · obtain ⟨Au, capu, hu, hleu⟩ := C2.out.row.slice
          have C2' := C2
          subst hds
          simp only [List.length_nil] at hu
          subst hu
          go_wp2_with fail
          go_ret
          exact ⟨_, H2, [], rfl, HLEH.out, C2'.out.more (by omega), by simp, hkb⟩
        · have hpos : 0 < ds.length := List.length_pos_iff.2 hds
          obtain ⟨go, capg, rest, hv, hleg, hBg, hglt, hmg, hblk, hrg⟩ := C2.out.row.form hds
          subst hv
          have hp2 : (0 : Int) < ds.length := by omega
          clear hblk hglt
          go_wp2_with fail
          refine (C2.out.lw.next' _ (by omega) (by omega) (by omega)).mono ?_
          rintro e W3 ⟨p, rfl, p0, p1, L3, g3, -⟩
          obtain ⟨p, rfl⟩ := Int.eq_ofNat_of_zero_le p0
          have C3 := Lib.hid (C2.out.asked L3 g3)
          clear L3 g3 C2
          go_wp2_with fail
          refine (C3.out.lw.next' 4 (by omega) (by omega) (by omega)).mono ?_
          rintro e W4 ⟨sw, rfl, s0, s1, L4, g4, -⟩
          have C4 := Lib.hid (C3.out.asked L4 g4)
          clear L4 g4 C3
          have hcs : sw = 0 ∨ sw = 1 ∨ sw = 2 ∨ sw = 3 := by omega
          have hpl : p < ds.length := by omega
          have hkp := hkb _ (List.getElem_mem hpl)
          have hne := C4.out.lw.lt
          rcases hcs with rfl | rfl | rfl | rfl
          · obtain ⟨H5, le5, hx5, C5⟩ := C4.out.put (.cells #[.string ⟨#[]⟩, .string ⟨#[109, 97, 121]⟩, .string ⟨#[77, 97, 121]⟩] 9)
            have hI : StrsW (W4.alloc (.cells #[.string ⟨#[]⟩, .string ⟨#[109, 97, 121]⟩, .string ⟨#[77, 97, 121]⟩] 9)) (some ⟨W4.heap.size, 0, none⟩) [⟨#[]⟩, ⟨#[109, 97, 121]⟩, ⟨#[77, 97, 121]⟩] := StrsW.of_row (heap_at rfl) rfl
            have HI := Lib.hid hI
            have C5 := Lib.hid C5
            have HLE5 := Lib.hid (HLEH.out.trans le5)
            clear hI hx5 le5
            go_wp2_with fail
            refine (C5.out.lw.one _ _ [⟨#[]⟩, ⟨#[109, 97, 121]⟩, ⟨#[77, 97, 121]⟩] HI.out (fun b off e => by injection e with e; injection e with e1 e2; omega) (by simp) (by simp) (by omega)).mono ?_
            rintro e W6 ⟨z, rfl, hz6, L6, g6, -⟩
            have C6 := C5.out.asked L6 g6
            obtain ⟨cell1, fr1, hfin⟩ := C6.upd hpl (j := 0) (by omega) ⟨z, ds[p].cents, ds[p].first, ds[p].last, ds[p].pace⟩ (x := .string z) rfl (by intro m hm hne; have : m = 1 ∨ m = 2 ∨ m = 3 ∨ m = 4 := (by omega); rcases this with rfl | rfl | rfl | rfl <;> rfl)
            simp only [Nat.add_zero] at cell1 fr1 hfin
            have HFIN := Lib.hid hfin
            have HKB := Lib.hid (hkb.set (p := p) (d := ⟨z, ds[p].cents, ds[p].first, ds[p].last, ds[p].pace⟩) ⟨key3_size hz6, hkp.2⟩)
            have HZ := Lib.hid hz6
            clear C5 C6 L6 g6 hfin hz6 HI
            go_wp2_with fail
            go_ret
            exact ⟨_, H5, _, rfl, HLE5.out, HFIN.out.more (by omega), by simpa using hdl8, HKB.out⟩
          · obtain ⟨H5, le5, hx5, C5⟩ := C4.out.put (.cells #[.int .i64 (-1), .int .i64 1000000000001] 3)
            have hI : Ints (W4.alloc (.cells #[.int .i64 (-1), .int .i64 1000000000001] 3)) (some ⟨W4.heap.size, 0, none⟩) [-1, 1000000000001] := Ints.of_row (heap_at rfl) rfl
            have HI := Lib.hid hI
            have C5 := Lib.hid C5
            have HLE5 := Lib.hid (HLEH.out.trans le5)
            clear hI hx5 le5
            go_wp2_with fail
            refine (C5.out.lw.pick _ _ [-1, 1000000000001] HI.out (fun b off e => by injection e with e; injection e with e1 e2; omega) (by simp) (by simp) (by omega)).mono ?_
            rintro e W6 ⟨z, rfl, hz6, L6, g6, -⟩
            have C6 := C5.out.asked L6 g6
            obtain ⟨cell1, fr1, hfin⟩ := C6.upd hpl (j := 1) (by omega) ⟨ds[p].key, z, ds[p].first, ds[p].last, ds[p].pace⟩ (x := .int .i64 z) rfl (by intro m hm hne; have : m = 0 ∨ m = 2 ∨ m = 3 ∨ m = 4 := (by omega); rcases this with rfl | rfl | rfl | rfl <;> rfl)
            have HFIN := Lib.hid hfin
            have HKB := Lib.hid (hkb.set (p := p) (d := ⟨ds[p].key, z, ds[p].first, ds[p].last, ds[p].pace⟩) hkp)
            have HZ := Lib.hid hz6
            clear C5 C6 L6 g6 hfin hz6 HI
            go_wp2_with fail
            go_ret
            exact ⟨_, H5, _, rfl, HLE5.out, HFIN.out.more (by omega), by simpa using hdl8, HKB.out⟩
          · have cl : W4.cell? ⟨go, p * 5 + 3, none⟩ = some (.int .i64 ds[p].last) := (C4.out.upd hpl (j := 3) (by omega) ds[p] rfl (fun _ _ _ => rfl)).1
            obtain ⟨H5, le5, hx5, C5⟩ := C4.out.put (.cells #[.int .i64 (-1), .int .i64 (ds[p].last + 1)] 3)
            have hI : Ints (W4.alloc (.cells #[.int .i64 (-1), .int .i64 (ds[p].last + 1)] 3)) (some ⟨W4.heap.size, 0, none⟩) [-1, ds[p].last + 1] := Ints.of_row (heap_at rfl) rfl
            have HI := Lib.hid hI
            have C5 := Lib.hid C5
            have HLE5 := Lib.hid (HLEH.out.trans le5)
            clear hI hx5 le5
            go_wp2_with fail
            refine (C5.out.lw.pick _ _ [-1, ds[p].last + 1] HI.out (fun b off e => by injection e with e; injection e with e1 e2; omega) (by simp) (by simp) (by omega)).mono ?_
            rintro e W6 ⟨z, rfl, hz6, L6, g6, -⟩
            have C6 := C5.out.asked L6 g6
            obtain ⟨cell1, fr1, hfin⟩ := C6.upd hpl (j := 2) (by omega) ⟨ds[p].key, ds[p].cents, z, ds[p].last, ds[p].pace⟩ (x := .int .i64 z) rfl (by intro m hm hne; have : m = 0 ∨ m = 1 ∨ m = 3 ∨ m = 4 := (by omega); rcases this with rfl | rfl | rfl | rfl <;> rfl)
            have HFIN := Lib.hid hfin
            have HKB := Lib.hid (hkb.set (p := p) (d := ⟨ds[p].key, ds[p].cents, z, ds[p].last, ds[p].pace⟩) hkp)
            have HZ := Lib.hid hz6
            clear C5 C6 L6 g6 hfin hz6 HI
            go_wp2_with fail
            go_ret
            exact ⟨_, H5, _, rfl, HLE5.out, HFIN.out.more (by omega), by simpa using hdl8, HKB.out⟩
          · obtain ⟨H5, le5, hx5, C5⟩ := C4.out.put (.cells #[.int .i64 3000, .int .i64 3001] 3)
            have hI : Ints (W4.alloc (.cells #[.int .i64 3000, .int .i64 3001] 3)) (some ⟨W4.heap.size, 0, none⟩) [3000, 3001] := Ints.of_row (heap_at rfl) rfl
            have HI := Lib.hid hI
            have C5 := Lib.hid C5
            have HLE5 := Lib.hid (HLEH.out.trans le5)
            clear hI hx5 le5
            go_wp2_with fail
            refine (C5.out.lw.pick _ _ [3000, 3001] HI.out (fun b off e => by injection e with e; injection e with e1 e2; omega) (by simp) (by simp) (by omega)).mono ?_
            rintro e W6 ⟨z, rfl, hz6, L6, g6, -⟩
            have C6 := C5.out.asked L6 g6
            obtain ⟨cell1, fr1, hfin⟩ := C6.upd hpl (j := 3) (by omega) ⟨ds[p].key, ds[p].cents, ds[p].first, z, ds[p].pace⟩ (x := .int .i64 z) rfl (by intro m hm hne; have : m = 0 ∨ m = 1 ∨ m = 2 ∨ m = 4 := (by omega); rcases this with rfl | rfl | rfl | rfl <;> rfl)
            have HFIN := Lib.hid hfin
            have HKB := Lib.hid (hkb.set (p := p) (d := ⟨ds[p].key, ds[p].cents, ds[p].first, z, ds[p].pace⟩) ⟨hkp.1, by show 0 ≤ z; simp at hz6; omega, by show z ≤ 5000; simp at hz6; omega⟩)
            have HZ := Lib.hid hz6
            clear C5 C6 L6 g6 hfin hz6 HI
            go_wp2_with fail
            go_ret
            exact ⟨_, H5, _, rfl, HLE5.out, HFIN.out.more (by omega), by simpa using hdl8, HKB.out⟩
end Go.Proofs.YtecbejmeejepmaaDoor
