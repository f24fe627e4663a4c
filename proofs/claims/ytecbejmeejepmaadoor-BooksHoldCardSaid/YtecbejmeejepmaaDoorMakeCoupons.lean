/- What a stream makes: coupons. -/
import Derived.Test.YtecbejmeejepmaaDoorMakeCodes
namespace Go.Proofs.YtecbejmeejepmaaDoor
set_option linter.unusedVariables false
open Go.RowKit
structure CouponD where
  code : ByteArray
  offer : ByteArray
  most : Int
  each : Int
  first : Int
  last : Int
def fCo (d : CouponD) : Nat → Value
  | 0 => .string d.code
  | 1 => .string d.offer
  | 2 => .int .i64 d.most
  | 3 => .int .i64 d.each
  | 4 => .int .i64 d.first
  | _ => .int .i64 d.last
theorem infoCoupon : (Tryd.prog.info? 44).map (fun i => (i.zero, i.size, i.bytes)) = some (some (.agg #[.string ⟨#[]⟩, .string ⟨#[]⟩, .int .i64 0, .int .i64 0, .int .i64 0, .int .i64 0]), 6, 64) := by kernel_rfl
def bodies3 : List ByteArray := [⟨#[49, 50, 51]⟩, ⟨#[65, 66, 67]⟩, ⟨#[88, 89, 48, 48]⟩]
theorem bodies3_size (i : Nat) (hi : i < 3) : (bodies3[i]'hi).size ≤ 1000 := by
  match i, hi with
  | 0, _ => show (3 : Nat) ≤ 1000; omega
  | 1, _ => show (3 : Nat) ≤ 1000; omega
  | 2, _ => show (4 : Nat) ≤ 1000; omega
theorem bodies3_cell {H : Frz} {W : World} (h : H.In W) {g : Nat} {T : TypeId} (e : H g = some (.cells #[.string ⟨#[49, 50, 51]⟩, .string ⟨#[65, 66, 67]⟩, .string ⟨#[88, 89, 48, 48]⟩] T (0, 0))) (i : Nat) (hi : i < 3) : W.cell? ⟨g, i, none⟩ = some (.string (bodies3[i]'hi)) := by
  have := h _ _ e
  simp only [World.cell?, this]
  match i, hi with
  | 0, _ => rfl
  | 1, _ => rfl
  | 2, _ => rfl
def CoB (ds : List CouponD) : Prop := ∀ d ∈ ds, d.code.size ≤ 1000 ∧ d.offer.size ≤ 1000 ∧ -10000000 ≤ d.first ∧ d.first ≤ 10000000
theorem CoB.snoc {ds : List CouponD} (h : CoB ds) {d : CouponD} (hd : d.code.size ≤ 1000 ∧ d.offer.size ≤ 1000 ∧ -10000000 ≤ d.first ∧ d.first ≤ 10000000) : CoB (ds ++ [d]) := by
  intro y hy
  rcases List.mem_append.1 hy with hy | hy
  · exact h y hy
  · simp at hy; rw [hy]; exact hd
theorem CoB.set {ds : List CouponD} (h : CoB ds) {d : CouponD} {p : Nat} (hd : d.code.size ≤ 1000 ∧ d.offer.size ≤ 1000 ∧ -10000000 ≤ d.first ∧ d.first ≤ 10000000) : CoB (ds.set p d) := by
  intro y hy
  rcases List.mem_or_eq_of_mem_set hy with hy | hy
  · exact h y hy
  · rw [hy]; exact hd
theorem ten_size {s : ByteArray} (h : s ∈ [(⟨#[]⟩ : ByteArray), ⟨#[84, 101, 110]⟩]) : s.size ≤ 1000 := by
  simp at h
  rcases h with rfl | rfl
  · show (0 : Nat) ≤ 1000; omega
  · show (3 : Nat) ≤ 1000; omega
/-- Two cells of an element changed. -/
theorem RM.upd2 {D : Type} {T k : Nat} {f : D → Nat → Value} {w wr : World} {bs K B : Nat} {H : Frz} {ds : List D} {go capg : Nat} (h : RM T k f w bs K H B (.slice (some ⟨go, 0, none⟩) ds.length capg) ds wr) {p : Nat} (hp : p < ds.length) {i j : Nat} (hi : i < k) (hj : j < k) (hij : i ≠ j) (d1 d2 : D) {x y : Value} (hx : f d1 i = x) (hy : f d2 j = y) (h1 : ∀ m, m < k → m ≠ i → f d1 m = f ds[p] m) (h2 : ∀ m, m < k → m ≠ j → f d2 m = f d1 m) :
    wr.cell? ⟨go, p * k + i, none⟩ = some (f ds[p] i) ∧ wr.frozen? ⟨go, p * k + i, none⟩ = false ∧ wr.cell? ⟨go, p * k + j, none⟩ = some (f ds[p] j) ∧ wr.frozen? ⟨go, p * k + j, none⟩ = false ∧ RM T k f w bs K H B (.slice (some ⟨go, 0, none⟩) ds.length capg) (ds.set p d2) ((wr.setCell ⟨go, p * k + i, none⟩ x).setCell ⟨go, p * k + j, none⟩ y) := by
  obtain ⟨c1, f1, r1⟩ := h.upd hp hi d1 hx h1
  obtain ⟨c2, f2, -⟩ := h.upd hp hj ds[p] rfl (fun _ _ _ => rfl)
  have hl : (ds.set p d1).length = ds.length := by simp
  have r1' : RM T k f w bs K H B (.slice (some ⟨go, 0, none⟩) (ds.set p d1).length capg) (ds.set p d1) (wr.setCell ⟨go, p * k + i, none⟩ x) := by rw [hl]; exact r1
  obtain ⟨_, _, r2⟩ := r1'.upd (p := p) (by rw [hl]; exact hp) hj d2 hy (fun m hm hne => by rw [List.getElem_set_self]; exact h2 m hm hne)
  rw [hl, List.set_set] at r2
  exact ⟨c1, f1, c2, f2, r2⟩
abbrev CoM := RM (D := CouponD) 44 6 fCo
def CoPost (w : World) (bs K : Nat) (H : Frz) (B : Nat) (e : Ending) (W' : World) : Prop := ∃ v H' ds, e = .returned v ∧ H.Le H' ∧ CoM w bs (K + 200) H' B v ds W' ∧ ds.length ≤ 3 ∧ CoB ds
set_option maxHeartbeats 4000000 in
set_option maxRecDepth 100000 in
theorem Lw.coupons {w W : World} {bs K : Nat} {H : Frz} (h : Lw w bs K H W) (hK : K ≤ 10000000) :
    Calls Tryd.prog 5 #[.pointer (some ⟨bs, 0, none⟩)] W (CoPost w bs K H W.heap.size) := by
  obtain ⟨i0, hi0, hz0, hz1, hz2⟩ := info_parts infoCoupon
  have hbs := h.lt
  obtain ⟨H1, le1, hA, C1⟩ := (RM.new (T := 44) (k := 6) (f := fCo) h).put (.cells #[.string ⟨#[49, 50, 51]⟩, .string ⟨#[65, 66, 67]⟩, .string ⟨#[88, 89, 48, 48]⟩] 9)
  have HA := Lib.hid hA
  have HLE := Lib.hid le1
  have C1 : Hid (CoM w bs K H1 W.heap.size (.slice none 0 0) [] _) := Lib.hid C1
  clear h hA le1
  go_enter Tryd.func5, Tryd.ntmps5
  go_wp2_with fail
  generalize World.alloc W _ = WA at C1
  go_loopw [3, 11] (fun v t wr => ∃ (i : Nat) (H' : Frz) (ds : List CouponD), i ≤ 3 ∧ t = .int .i64 i ∧ Hid (H1.Le H') ∧ Hid (CoM w bs (K + 5 * i) H' W.heap.size v ds wr) ∧ ds.length ≤ i ∧ CoB ds) (fun _ t _ => 3 - (intOf t).toNat)
  case atStart => exact ⟨0, H1, [], by omega, rfl, Frz.Le.refl _, C1, by simp, (by intro d hd; cases hd)⟩
  case round =>
    obtain ⟨i, H2, ds, hi, rfl, hle2, C, hdl, hkb⟩ := hrel
    clear C1
    by_cases hlt : i < 3
    · have di : decide ((i : Int) < 3) = true := by simp; omega
      have ca := bodies3_cell C.out.lw.fin (hle2.out _ _ HA.out) i hlt
      have hsa := bodies3_size i hlt
      generalize bodies3[i]'hlt = sa at ca hsa
      go_wp2_with fail
      refine (C.out.lw.flip 4 (by omega) (by omega)).mono ?_
      rintro e W2 ⟨t, rfl, L2, g2, -⟩
      have C2 := Lib.hid (C.out.asked L2 g2)
      clear L2 g2 C ca
      cases t with
      | true =>
        go_wp2_with fail
        go_roundw
        case rel => exact ⟨i + 1, H2, ds, by omega, by go_num, hle2, C2.out.more (by omega), by omega, hkb⟩
        case measure => simp [intOf]; omega
      | false =>
        go_wp2_with fail
        refine (sealOf_any sa W2 (by omega)).mono ?_
        rintro e W3 ⟨⟨cd, ff, rfl, hcd, -⟩, hb3⟩
        have D0 := Lib.hid (C2.out.call hb3)
        clear hb3 C2
        obtain ⟨G0, le0, hx0, F0⟩ := D0.out.put (.cells #[.int .i64 1, .int .i64 2, .int .i64 3] 3)
        have hI : Ints (W3.alloc (.cells #[.int .i64 1, .int .i64 2, .int .i64 3] 3)) (some ⟨W3.heap.size, 0, none⟩) [1, 2, 3] := Ints.of_row (heap_at rfl) rfl
        have hne := D0.out.lw.lt
        have HI := Lib.hid hI
        have F0 := Lib.hid F0
        have LE0 := Lib.hid (hle2.out.trans le0)
        clear hI hx0 le0
        go_wp2_with fail
        refine (F0.out.lw.pick _ _ [1, 2, 3] HI.out (fun b off e => by injection e with e; injection e with e1 e2; omega) (by simp) (by simp) (by omega)).mono ?_
        rintro e X0 ⟨mo, rfl, hm0, L4, g4, -⟩
        have E0 := Lib.hid (F0.out.asked L4 g4)
        clear L4 g4 D0 F0 HI hne hm0
        obtain ⟨G1, le1, hx1, F1⟩ := E0.out.put (.cells #[.int .i64 1, .int .i64 1, .int .i64 2] 3)
        have hI : Ints (X0.alloc (.cells #[.int .i64 1, .int .i64 1, .int .i64 2] 3)) (some ⟨X0.heap.size, 0, none⟩) [1, 1, 2] := Ints.of_row (heap_at rfl) rfl
        have hne := E0.out.lw.lt
        have HI := Lib.hid hI
        have F1 := Lib.hid F1
        have LE1 := Lib.hid (LE0.out.trans le1)
        clear hI hx1 le1
        go_wp2_with fail
        refine (F1.out.lw.pick _ _ [1, 1, 2] HI.out (fun b off e => by injection e with e; injection e with e1 e2; omega) (by simp) (by simp) (by omega)).mono ?_
        rintro e X1 ⟨ea, rfl, hm1, L4, g4, -⟩
        have E1 := Lib.hid (F1.out.asked L4 g4)
        clear L4 g4 E0 F1 HI hne hm1
        obtain ⟨G2, le2, hx2, F2⟩ := E1.out.put (.cells #[.int .i64 0, .int .i64 10] 3)
        have hI : Ints (X1.alloc (.cells #[.int .i64 0, .int .i64 10] 3)) (some ⟨X1.heap.size, 0, none⟩) [0, 10] := Ints.of_row (heap_at rfl) rfl
        have hne := E1.out.lw.lt
        have HI := Lib.hid hI
        have F2 := Lib.hid F2
        have LE2 := Lib.hid (LE1.out.trans le2)
        clear hI hx2 le2
        go_wp2_with fail
        refine (F2.out.lw.pick _ _ [0, 10] HI.out (fun b off e => by injection e with e; injection e with e1 e2; omega) (by simp) (by simp) (by omega)).mono ?_
        rintro e X2 ⟨fi, rfl, hm2, L4, g4, -⟩
        have E2 := Lib.hid (F2.out.asked L4 g4)
        have hb2 : 0 ≤ fi ∧ fi ≤ 10 := by simp at hm2; omega
        clear L4 g4 E1 F2 HI hne hm2
        obtain ⟨G3, le3, hx3, F3⟩ := E2.out.put (.cells #[.int .i64 50, .int .i64 100, .int .i64 4321440] 3)
        have hI : Ints (X2.alloc (.cells #[.int .i64 50, .int .i64 100, .int .i64 4321440] 3)) (some ⟨X2.heap.size, 0, none⟩) [50, 100, 4321440] := Ints.of_row (heap_at rfl) rfl
        have hne := E2.out.lw.lt
        have HI := Lib.hid hI
        have F3 := Lib.hid F3
        have LE3 := Lib.hid (LE2.out.trans le3)
        clear hI hx3 le3
        go_wp2_with fail
        refine (F3.out.lw.pick _ _ [50, 100, 4321440] HI.out (fun b off e => by injection e with e; injection e with e1 e2; omega) (by simp) (by simp) (by omega)).mono ?_
        rintro e X3 ⟨la, rfl, hm3, L4, g4, -⟩
        have E3 := Lib.hid (F3.out.asked L4 g4)
        clear L4 g4 E2 F3 HI hne hm3
        have HOr := Lib.hid E3.out.row
        have HST := Lib.hid (fun v' W' o g1 at1 => E3.out.app (v' := v') (W' := W') (ds' := ds ++ [⟨cd, ⟨#[116, 101, 110]⟩, mo, ea, fi, la⟩]) o g1 at1)
        have hB9 := E3.out.2.2.2.2
        go_wp2_with (at_builtin; refine wpList_app_at rfl _ _ 26 rfl W.heap.size 44 i0 (.agg #[.string ⟨#[]⟩, .string ⟨#[]⟩, .int .i64 0, .int .i64 0, .int .i64 0, .int .i64 0]) 6 64 Tryd.underlying26 hi0 hz0 hz1 hz2 rfl (by decide) fCo _ ds rfl HOr.out ⟨cd, ⟨#[116, 101, 110]⟩, mo, ea, fi, la⟩ #[.string cd, .string ⟨#[116, 101, 110]⟩, .int .i64 mo, .int .i64 ea, .int .i64 fi, .int .i64 la] 44 rfl rfl (by simp [Value.oneCell']) (by omega) (by omega) hB9 ?_; intro v1 w2 o1 g1 b1 at1; have CA := Lib.hid (HST.out v1 w2 o1 g1 at1); clear o1 g1 b1 at1 HST HOr)
        go_roundw
        case rel => exact ⟨i + 1, G3, _, by omega, by go_num, LE3, CA.out.more (by omega), by simp; omega, hkb.snoc ⟨by show cd.size ≤ 1000; omega, by show (3 : Nat) ≤ 1000; omega, by show -10000000 ≤ fi; omega, by show fi ≤ 10000000; omega⟩⟩
        case measure => simp [intOf]; omega
    · have hie : i = 3 := by omega
      subst hie
      have hdl8 : ds.length ≤ 3 := hdl
      have HLEH := Lib.hid (HLE.out.trans hle2.out)
      go_wp2_with fail
      refine (C.out.lw.flip 10 (by omega) (by omega)).mono ?_
      rintro e W2 ⟨t, rfl, L2, g2, -⟩
      have C2 := Lib.hid (C.out.asked L2 g2)
      clear L2 g2 C
      cases t with
      | false =>
        go_wp2_with fail
        go_ret
        exact ⟨_, H2, ds, rfl, HLEH.out, C2.out.more (by omega), hdl8, hkb⟩
      | true =>
        by_cases hds : ds = []
        · obtain ⟨Au, capu, hu, hleu⟩ := C2.out.row.slice
          have C2' := C2
          subst hds
          simp only [List.length_nil] at hu
          subst hu
          go_wp2_with fail
          go_ret
          exact ⟨_, H2, [], rfl, HLEH.out, C2'.out.more (by omega), by simp, hkb⟩
        · have hpos : 0 < ds.length := List.length_pos_iff.2 hds
          obtain ⟨go, capg, rest, hv, hleg, hBg, hglt, hmg, hblk, hrg⟩ := C2.out.row.form hds
          subst hv
          have hp2 : (0 : Int) < ds.length := by omega
          clear hblk hglt
          go_wp2_with fail
          refine (C2.out.lw.next' _ (by omega) (by omega) (by omega)).mono ?_
          rintro e W3 ⟨p, rfl, p0, p1, L3, g3, -⟩
          obtain ⟨p, rfl⟩ := Int.eq_ofNat_of_zero_le p0
          have C3 := Lib.hid (C2.out.asked L3 g3)
          clear L3 g3 C2
          go_wp2_with fail
          refine (C3.out.lw.next' 4 (by omega) (by omega) (by omega)).mono ?_
          rintro e W4 ⟨sw, rfl, s0, s1, L4, g4, -⟩
          have C4 := Lib.hid (C3.out.asked L4 g4)
          clear L4 g4 C3
          have hcs : sw = 0 ∨ sw = 1 ∨ sw = 2 ∨ sw = 3 := by omega
          have hpl : p < ds.length := by omega
          have hkp := hkb _ (List.getElem_mem hpl)
          have hne := C4.out.lw.lt
          rcases hcs with rfl | rfl | rfl | rfl
          · go_wp2_with fail
            refine (C4.out.lw.code (by omega)).mono ?_
            rintro e W6 ⟨z, rfl, hz6, L6, g6⟩
            have C6 := C4.out.asked L6 g6
            obtain ⟨cell1, fr1, hfin⟩ := C6.upd hpl (j := 0) (by omega) ⟨z, ds[p].offer, ds[p].most, ds[p].each, ds[p].first, ds[p].last⟩ (x := .string z) rfl (by intro m hm hne; have : m = 1 ∨ m = 2 ∨ m = 3 ∨ m = 4 ∨ m = 5 := (by omega); rcases this with rfl | rfl | rfl | rfl | rfl <;> rfl)
            simp only [Nat.add_zero] at cell1 fr1 hfin
            have HFIN := Lib.hid hfin
            have HKB := Lib.hid (hkb.set (p := p) (d := ⟨z, ds[p].offer, ds[p].most, ds[p].each, ds[p].first, ds[p].last⟩) ⟨by show z.size ≤ 1000; omega, hkp.2⟩)
            clear C6 L6 g6 hfin
            go_wp2_with fail
            go_ret
            exact ⟨_, H2, _, rfl, HLEH.out, HFIN.out.more (by omega), by simpa using hdl8, HKB.out⟩
          · obtain ⟨H5, le5, hx5, C5⟩ := C4.out.put (.cells #[.string ⟨#[]⟩, .string ⟨#[84, 101, 110]⟩] 9)
            have hI : StrsW (W4.alloc (.cells #[.string ⟨#[]⟩, .string ⟨#[84, 101, 110]⟩] 9)) (some ⟨W4.heap.size, 0, none⟩) [⟨#[]⟩, ⟨#[84, 101, 110]⟩] := StrsW.of_row (heap_at rfl) rfl
            have HI := Lib.hid hI
            have C5 := Lib.hid C5
            have HLE5 := Lib.hid (HLEH.out.trans le5)
            clear hI hx5 le5
            go_wp2_with fail
            refine (C5.out.lw.one _ _ [⟨#[]⟩, ⟨#[84, 101, 110]⟩] HI.out (fun b off e => by injection e with e; injection e with e1 e2; omega) (by simp) (by simp) (by omega)).mono ?_
            rintro e W6 ⟨z, rfl, hz6, L6, g6, -⟩
            have C6 := C5.out.asked L6 g6
            obtain ⟨cell1, fr1, hfin⟩ := C6.upd hpl (j := 1) (by omega) ⟨ds[p].code, z, ds[p].most, ds[p].each, ds[p].first, ds[p].last⟩ (x := .string z) rfl (by intro m hm hne; have : m = 0 ∨ m = 2 ∨ m = 3 ∨ m = 4 ∨ m = 5 := (by omega); rcases this with rfl | rfl | rfl | rfl | rfl <;> rfl)
            have HFIN := Lib.hid hfin
            have HKB := Lib.hid (hkb.set (p := p) (d := ⟨ds[p].code, z, ds[p].most, ds[p].each, ds[p].first, ds[p].last⟩) ⟨hkp.1, ten_size hz6, hkp.2.2⟩)
            clear C5 C6 L6 g6 hfin hz6 HI
            go_wp2_with fail
            go_ret
            exact ⟨_, H5, _, rfl, HLE5.out, HFIN.out.more (by omega), by simpa using hdl8, HKB.out⟩
          · obtain ⟨H5, le5, hx5, C5⟩ := C4.out.put (.cells #[.int .i64 0, .int .i64 1000001, .int .i64 1] 3)
            have hI : Ints (W4.alloc (.cells #[.int .i64 0, .int .i64 1000001, .int .i64 1] 3)) (some ⟨W4.heap.size, 0, none⟩) [0, 1000001, 1] := Ints.of_row (heap_at rfl) rfl
            have HI := Lib.hid hI
            have C5 := Lib.hid C5
            have HLE5 := Lib.hid (HLEH.out.trans le5)
            clear hI hx5 le5
            go_wp2_with fail
            refine (C5.out.lw.pick _ _ [0, 1000001, 1] HI.out (fun b off e => by injection e with e; injection e with e1 e2; omega) (by simp) (by simp) (by omega)).mono ?_
            rintro e W6 ⟨z, rfl, hz6, L6, g6, -⟩
            have C6 := Lib.hid (C5.out.asked L6 g6)
            have hzb : -10000000 ≤ z ∧ z ≤ 10000000 := by simp at hz6; omega
            clear C5 L6 g6 hz6 HI hne
            have hne := C6.out.lw.lt
            obtain ⟨H7, le7, hx7, C7⟩ := C6.out.put (.cells #[.int .i64 0, .int .i64 1] 3)
            have hI : Ints (W6.alloc (.cells #[.int .i64 0, .int .i64 1] 3)) (some ⟨W6.heap.size, 0, none⟩) [0, 1] := Ints.of_row (heap_at rfl) rfl
            have HI := Lib.hid hI
            have C7 := Lib.hid C7
            have HLE7 := Lib.hid (HLE5.out.trans le7)
            clear hI hx7 le7
            go_wp2_with fail
            refine (C7.out.lw.pick _ _ [0, 1] HI.out (fun b off e => by injection e with e; injection e with e1 e2; omega) (by simp) (by simp) (by omega)).mono ?_
            rintro e W8 ⟨y, rfl, -, L8, g8, -⟩
            have C8 := C7.out.asked L8 g8
            obtain ⟨cell1, fr1, cell2, fr2, hfin⟩ := C8.upd2 hpl (i := 2) (j := 3) (by omega) (by omega) (by omega) ⟨ds[p].code, ds[p].offer, z, ds[p].each, ds[p].first, ds[p].last⟩ ⟨ds[p].code, ds[p].offer, z, y, ds[p].first, ds[p].last⟩ (x := .int .i64 z) (y := .int .i64 y) rfl rfl (by intro m hm hne; have : m = 0 ∨ m = 1 ∨ m = 3 ∨ m = 4 ∨ m = 5 := (by omega); rcases this with rfl | rfl | rfl | rfl | rfl <;> rfl) (by intro m hm hne; have : m = 0 ∨ m = 1 ∨ m = 2 ∨ m = 4 ∨ m = 5 := (by omega); rcases this with rfl | rfl | rfl | rfl | rfl <;> rfl)
            have HFIN := Lib.hid hfin
            have HKB := Lib.hid (hkb.set (p := p) (d := ⟨ds[p].code, ds[p].offer, z, y, ds[p].first, ds[p].last⟩) hkp)
            clear C7 C8 L8 g8 hfin HI C6
            go_wp2_with fail
            go_ret
            exact ⟨_, H7, _, rfl, HLE7.out, HFIN.out.more (by omega), by simpa using hdl8, HKB.out⟩
          · obtain ⟨H5, le5, hx5, C5⟩ := C4.out.put (.cells #[.int .i64 (-1), .int .i64 5] 3)
            have hI : Ints (W4.alloc (.cells #[.int .i64 (-1), .int .i64 5] 3)) (some ⟨W4.heap.size, 0, none⟩) [-1, 5] := Ints.of_row (heap_at rfl) rfl
            have HI := Lib.hid hI
            have C5 := Lib.hid C5
            have HLE5 := Lib.hid (HLEH.out.trans le5)
            clear hI hx5 le5
            go_wp2_with fail
            refine (C5.out.lw.pick _ _ [-1, 5] HI.out (fun b off e => by injection e with e; injection e with e1 e2; omega) (by simp) (by simp) (by omega)).mono ?_
            rintro e W6 ⟨z, rfl, hz6, L6, g6, -⟩
            have C6 := Lib.hid (C5.out.asked L6 g6)
            have hzb : -10000000 ≤ z ∧ z ≤ 10000000 := by simp at hz6; omega
            clear C5 L6 g6 hz6 HI hne
            have hne := C6.out.lw.lt
            obtain ⟨H7, le7, hx7, C7⟩ := C6.out.put (.cells #[.int .i64 5, .int .i64 6, .int .i64 4321441] 3)
            have hI : Ints (W6.alloc (.cells #[.int .i64 5, .int .i64 6, .int .i64 4321441] 3)) (some ⟨W6.heap.size, 0, none⟩) [5, 6, 4321441] := Ints.of_row (heap_at rfl) rfl
            have HI := Lib.hid hI
            have C7 := Lib.hid C7
            have HLE7 := Lib.hid (HLE5.out.trans le7)
            clear hI hx7 le7
            go_wp2_with fail
            refine (C7.out.lw.pick _ _ [5, 6, 4321441] HI.out (fun b off e => by injection e with e; injection e with e1 e2; omega) (by simp) (by simp) (by omega)).mono ?_
            rintro e W8 ⟨y, rfl, -, L8, g8, -⟩
            have C8 := C7.out.asked L8 g8
            obtain ⟨cell1, fr1, cell2, fr2, hfin⟩ := C8.upd2 hpl (i := 4) (j := 5) (by omega) (by omega) (by omega) ⟨ds[p].code, ds[p].offer, ds[p].most, ds[p].each, z, ds[p].last⟩ ⟨ds[p].code, ds[p].offer, ds[p].most, ds[p].each, z, y⟩ (x := .int .i64 z) (y := .int .i64 y) rfl rfl (by intro m hm hne; have : m = 0 ∨ m = 1 ∨ m = 2 ∨ m = 3 ∨ m = 5 := (by omega); rcases this with rfl | rfl | rfl | rfl | rfl <;> rfl) (by intro m hm hne; have : m = 0 ∨ m = 1 ∨ m = 2 ∨ m = 3 ∨ m = 4 := (by omega); rcases this with rfl | rfl | rfl | rfl | rfl <;> rfl)
            have HFIN := Lib.hid hfin
            have HKB := Lib.hid (hkb.set (p := p) (d := ⟨ds[p].code, ds[p].offer, ds[p].most, ds[p].each, z, y⟩) ⟨hkp.1, hkp.2.1, hzb⟩)
            clear C7 C8 L8 g8 hfin HI C6
            go_wp2_with fail
            go_ret
            exact ⟨_, H7, _, rfl, HLE7.out, HFIN.out.more (by omega), by simpa using hdl8, HKB.out⟩
end Go.Proofs.YtecbejmeejepmaaDoor
