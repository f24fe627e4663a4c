/- What a stream makes: letters that were sent. -/
import Derived.Test.YtecbejmeejepmaaMakeG
import Derived.Test.YtecbejmeejepmaaMakeKey
import Derived.Test.YtecbejmeejepmaaCheckSent
namespace Go.Proofs.Ytecbejmeejepmaa
set_option linter.unusedVariables false
open Go.RowKit
theorem infoSent : (Try.prog.info? 42).map (fun i => (i.zero, i.size, i.bytes)) = some (some (.agg #[.string ⟨#[]⟩, .string ⟨#[]⟩, .string ⟨#[]⟩, .int .i64 0]), 4, 56) := by kernel_rfl
theorem SzS.snoc {ds : List SentD} (h : SzS ds) {d : SentD} (hd : d.id.size ≤ 1000 ∧ d.person.size ≤ 1000 ∧ d.letter.size ≤ 1000 ∧ -10000000 ≤ d.at_ ∧ d.at_ ≤ 10000000) : SzS (ds ++ [d]) := by
  intro y hy
  rcases List.mem_append.1 hy with hy | hy
  · exact h y hy
  · simp at hy; rw [hy]; exact hd
theorem SzS.set {ds : List SentD} (h : SzS ds) {d : SentD} {p : Nat} (hd : d.id.size ≤ 1000 ∧ d.person.size ≤ 1000 ∧ d.letter.size ≤ 1000 ∧ -10000000 ≤ d.at_ ∧ d.at_ ≤ 10000000) : SzS (ds.set p d) := by
  intro y hy
  rcases List.mem_or_eq_of_mem_set hy with hy | hy
  · exact h y hy
  · rw [hy]; exact hd
def chr (i : Nat) : ByteArray := ⟨#[(97 + i).toUInt8]⟩
theorem conv1_0 (w : World) : (convert 3 21 (.int .i64 (97 + ((0 : Nat) : Int)))).run Try.prog w = .ok (.int .i32 (97 + ((0 : Nat) : Int))) w := by kernel_rfl
theorem conv2_0 (w : World) : (convert 21 9 (.int .i32 (97 + ((0 : Nat) : Int)))).run Try.prog w = .ok (.string (chr 0)) w := by kernel_rfl
theorem conv1_1 (w : World) : (convert 3 21 (.int .i64 (97 + ((1 : Nat) : Int)))).run Try.prog w = .ok (.int .i32 (97 + ((1 : Nat) : Int))) w := by kernel_rfl
theorem conv2_1 (w : World) : (convert 21 9 (.int .i32 (97 + ((1 : Nat) : Int)))).run Try.prog w = .ok (.string (chr 1)) w := by kernel_rfl
theorem conv1_2 (w : World) : (convert 3 21 (.int .i64 (97 + ((2 : Nat) : Int)))).run Try.prog w = .ok (.int .i32 (97 + ((2 : Nat) : Int))) w := by kernel_rfl
theorem conv2_2 (w : World) : (convert 21 9 (.int .i32 (97 + ((2 : Nat) : Int)))).run Try.prog w = .ok (.string (chr 2)) w := by kernel_rfl
theorem conv1_3 (w : World) : (convert 3 21 (.int .i64 (97 + ((3 : Nat) : Int)))).run Try.prog w = .ok (.int .i32 (97 + ((3 : Nat) : Int))) w := by kernel_rfl
theorem conv2_3 (w : World) : (convert 21 9 (.int .i32 (97 + ((3 : Nat) : Int)))).run Try.prog w = .ok (.string (chr 3)) w := by kernel_rfl
theorem conv1_4 (w : World) : (convert 3 21 (.int .i64 (97 + ((4 : Nat) : Int)))).run Try.prog w = .ok (.int .i32 (97 + ((4 : Nat) : Int))) w := by kernel_rfl
theorem conv2_4 (w : World) : (convert 21 9 (.int .i32 (97 + ((4 : Nat) : Int)))).run Try.prog w = .ok (.string (chr 4)) w := by kernel_rfl
theorem conv1_5 (w : World) : (convert 3 21 (.int .i64 (97 + ((5 : Nat) : Int)))).run Try.prog w = .ok (.int .i32 (97 + ((5 : Nat) : Int))) w := by kernel_rfl
theorem conv2_5 (w : World) : (convert 21 9 (.int .i32 (97 + ((5 : Nat) : Int)))).run Try.prog w = .ok (.string (chr 5)) w := by kernel_rfl
theorem conv1_6 (w : World) : (convert 3 21 (.int .i64 (97 + ((6 : Nat) : Int)))).run Try.prog w = .ok (.int .i32 (97 + ((6 : Nat) : Int))) w := by kernel_rfl
theorem conv2_6 (w : World) : (convert 21 9 (.int .i32 (97 + ((6 : Nat) : Int)))).run Try.prog w = .ok (.string (chr 6)) w := by kernel_rfl
theorem conv1_7 (w : World) : (convert 3 21 (.int .i64 (97 + ((7 : Nat) : Int)))).run Try.prog w = .ok (.int .i32 (97 + ((7 : Nat) : Int))) w := by kernel_rfl
theorem conv2_7 (w : World) : (convert 21 9 (.int .i32 (97 + ((7 : Nat) : Int)))).run Try.prog w = .ok (.string (chr 7)) w := by kernel_rfl
theorem conv1_8 (w : World) : (convert 3 21 (.int .i64 (97 + ((8 : Nat) : Int)))).run Try.prog w = .ok (.int .i32 (97 + ((8 : Nat) : Int))) w := by kernel_rfl
theorem conv2_8 (w : World) : (convert 21 9 (.int .i32 (97 + ((8 : Nat) : Int)))).run Try.prog w = .ok (.string (chr 8)) w := by kernel_rfl
theorem conv1 (i : Nat) (hi : i < 9) (w : World) : (convert 3 21 (.int .i64 (97 + (i : Int)))).run Try.prog w = .ok (.int .i32 (97 + (i : Int))) w := by
  have hc : i = 0 ∨ i = 1 ∨ i = 2 ∨ i = 3 ∨ i = 4 ∨ i = 5 ∨ i = 6 ∨ i = 7 ∨ i = 8 := by omega
  rcases hc with rfl | rfl | rfl | rfl | rfl | rfl | rfl | rfl | rfl
  · exact conv1_0 w
  · exact conv1_1 w
  · exact conv1_2 w
  · exact conv1_3 w
  · exact conv1_4 w
  · exact conv1_5 w
  · exact conv1_6 w
  · exact conv1_7 w
  · exact conv1_8 w
theorem conv2 (i : Nat) (hi : i < 9) (w : World) : (convert 21 9 (.int .i32 (97 + (i : Int)))).run Try.prog w = .ok (.string (chr i)) w := by
  have hc : i = 0 ∨ i = 1 ∨ i = 2 ∨ i = 3 ∨ i = 4 ∨ i = 5 ∨ i = 6 ∨ i = 7 ∨ i = 8 := by omega
  rcases hc with rfl | rfl | rfl | rfl | rfl | rfl | rfl | rfl | rfl
  · exact conv2_0 w
  · exact conv2_1 w
  · exact conv2_2 w
  · exact conv2_3 w
  · exact conv2_4 w
  · exact conv2_5 w
  · exact conv2_6 w
  · exact conv2_7 w
  · exact conv2_8 w
theorem size1 {s : ByteArray} {l : List ByteArray} (h : s ∈ l) (hl : l.all (fun x => decide (x.size ≤ 1000)) = true) : s.size ≤ 1000 := by
  have := List.all_eq_true.1 hl s h
  simpa using this
abbrev SM4 := RM (D := SentD) 42 4 fSe
def SentPost (w : World) (bs K : Nat) (H : Frz) (B : Nat) (e : Ending) (W' : World) : Prop := ∃ v ds, e = .returned v ∧ SM4 w bs (K + 120) H B v ds W' ∧ ds.length ≤ 8 ∧ SzS ds
set_option maxHeartbeats 4000000 in
set_option maxRecDepth 100000 in
theorem Lw.sentList {w W : World} {bs K : Nat} {H : Frz} (h : Lw w bs K H W) (hK : K ≤ 1000000) :
    Calls Try.prog 4 #[.pointer (some ⟨bs, 0, none⟩), .int .i64 8] W (SentPost w bs K H W.heap.size) := by
  obtain ⟨i0, hi0, hz0, hz1, hz2⟩ := info_parts infoSent
  have hbs := h.lt
  have C0 := Lib.hid (RM.new (T := 42) (k := 4) (f := fSe) h)
  clear h
  go_enter Try.func4, Try.ntmps4
  go_wp2_with fail
  refine (C0.out.lw.next' 9 (by omega) (by omega) (by omega)).mono ?_
  rintro e W1 ⟨r, rfl, r0, r1, Lq, gq, -⟩
  have C1 := Lib.hid (C0.out.asked Lq gq)
  clear Lq gq C0
  obtain ⟨r, rfl⟩ := Int.eq_ofNat_of_zero_le r0
  have hr9 : r ≤ 8 := by omega
  go_wp2_with fail
  go_loopw [5, 6, 13] (fun v a t wr => ∃ (i : Nat) (at_ : Int) (ds : List SentD), i ≤ r ∧ t = .int .i64 i ∧ a = .int .i64 at_ ∧ 0 ≤ at_ ∧ at_ ≤ 100 * i ∧ Hid (SM4 w bs (K + 1 + 10 * i) H W.heap.size v ds wr) ∧ ds.length ≤ i ∧ SzS ds) (fun _ _ t _ => r - (intOf t).toNat)
  case atStart => exact ⟨0, 0, [], by omega, rfl, rfl, by omega, by omega, C1, by simp, (by intro d hd; cases hd)⟩
  case round =>
    obtain ⟨i, at_, ds, hi, rfl, rfl, a0, a1, C, hdl, hsz⟩ := hrel
    clear C1
    by_cases hlt : i < r
    · have HSZ := Lib.hid hsz
      clear hsz
      have hne := C.out.lw.lt
      have hIn : Ints (wr.alloc (.cells #[.int .i64 0, .int .i64 1, .int .i64 10, .int .i64 100] 3)) (some ⟨wr.heap.size, 0, none⟩) [0, 1, 10, 100] := Ints.of_row (heap_at rfl) rfl
      have HIn := Lib.hid hIn
      clear hIn
      go_wp2_with fail
      refine ((C.out.alloc _).lw.pick _ _ [0, 1, 10, 100] HIn.out (fun b off e => by injection e with e; injection e with e1 e2; omega) (by simp) (by simp) (by omega)).mono ?_
      rintro e W2 ⟨st, rfl, hst, Lq, gq, -⟩
      have C2 := Lib.hid ((C.out.alloc _).asked Lq gq)
      clear Lq gq HIn hne C
      have hst2 : 0 ≤ st ∧ st ≤ 100 := by simp at hst; omega
      clear hst
      have hch : (chr i).size ≤ 1 := Nat.le_refl 1
      have k1 := fun w => conv1 i (by omega) w
      have k2 := fun w => conv2 i (by omega) w
      have hne := C2.out.lw.lt
      have hSt : StrsW (W2.alloc (.cells #[.string ⟨#[97, 110, 110]⟩, .string ⟨#[98, 111]⟩] 9)) (some ⟨W2.heap.size, 0, none⟩) [⟨#[97, 110, 110]⟩, ⟨#[98, 111]⟩] := StrsW.of_row (heap_at rfl) rfl
      have HSt := Lib.hid hSt
      clear hSt
      go_wp2_with fail
      refine ((C2.out.alloc _).lw.key _ _ [⟨#[97, 110, 110]⟩, ⟨#[98, 111]⟩] HSt.out (fun b off e => by injection e with e; injection e with e1 e2; omega) (by simp) (by simp) (fun s h => size1 h (by decide)) (by omega)).mono ?_
      rintro e W3 ⟨pe, rfl, hpe, Lq, gq⟩
      have C3 := Lib.hid ((C2.out.alloc _).asked Lq gq)
      clear Lq gq HSt hne C2
      have hidb : ((⟨#[115]⟩ : ByteArray) ++ chr i).size ≤ 1000 := by
        rw [ByteArray.size_append]
        show 1 + (chr i).size ≤ 1000
        omega
      generalize (⟨#[115]⟩ : ByteArray) ++ chr i = idb at hidb
      clear k1 k2
      have hne := C3.out.lw.lt
      have hSt : StrsW (W3.alloc (.cells #[.string ⟨#[104, 101, 108, 108, 111]⟩, .string ⟨#[110, 101, 119, 115]⟩, .string ⟨#[111, 102, 102, 101, 114]⟩] 9)) (some ⟨W3.heap.size, 0, none⟩) [⟨#[104, 101, 108, 108, 111]⟩, ⟨#[110, 101, 119, 115]⟩, ⟨#[111, 102, 102, 101, 114]⟩] := StrsW.of_row (heap_at rfl) rfl
      have HSt := Lib.hid hSt
      clear hSt
      go_wp2_with fail
      refine ((C3.out.alloc _).lw.key _ _ [⟨#[104, 101, 108, 108, 111]⟩, ⟨#[110, 101, 119, 115]⟩, ⟨#[111, 102, 102, 101, 114]⟩] HSt.out (fun b off e => by injection e with e; injection e with e1 e2; omega) (by simp) (by simp) (fun s h => size1 h (by decide)) (by omega)).mono ?_
      rintro e W4 ⟨le, rfl, hle, Lq, gq⟩
      have C4 := Lib.hid ((C3.out.alloc _).asked Lq gq)
      clear Lq gq HSt hne C3
      generalize han : at_ + st = an at *
      have a0' : 0 ≤ an := by omega
      have a1' : an ≤ 100 * (i + 1) := by omega
      clear han hst2
      have HOr := Lib.hid C4.out.row
      have HST := Lib.hid (fun v' W' o g1 at1 => C4.out.app (v' := v') (W' := W') (ds' := ds ++ [⟨idb, pe, le, an⟩]) o g1 at1)
      have hB9 := C4.out.2.2.2.2
      go_wp2_with (at_builtin; refine wpList_app_at rfl _ _ 26 rfl W.heap.size 42 i0 (.agg #[.string ⟨#[]⟩, .string ⟨#[]⟩, .string ⟨#[]⟩, .int .i64 0]) 4 56 Try.underlying26 hi0 hz0 hz1 hz2 rfl (by decide) fSe _ ds rfl HOr.out ⟨idb, pe, le, an⟩ #[.string idb, .string pe, .string le, .int .i64 an] 42 rfl rfl (by simp [Value.oneCell']) (by omega) (by omega) hB9 ?_; intro v1 w2 o1 g1 b1 at1; have CA := Lib.hid (HST.out _ _ o1 g1 at1); clear o1 g1 b1 at1 HST HOr C4)
      go_roundw
      case rel => exact ⟨i + 1, an, _, by omega, by go_num, rfl, a0', by omega, CA.out.more (by omega), by simp; omega, HSZ.out.snoc ⟨hidb, hpe, hle, by show -10000000 ≤ an; omega, by show an ≤ 10000000; omega⟩⟩
      case measure => simp [intOf]; omega
    · have hie : i = r := by omega
      subst hie
      have HSZ := Lib.hid hsz
      have hdl8 : ds.length ≤ 8 := by omega
      clear hsz
      go_wp2_with fail
      refine (C.out.lw.flip 12 (by omega) (by omega)).mono ?_
      rintro e W2 ⟨t, rfl, Lq, gq, -⟩
      have C2 := Lib.hid (C.out.asked Lq gq)
      clear Lq gq C
      cases t with
      | false =>
        go_wp2_with fail
        go_ret
        exact ⟨_, ds, rfl, C2.out.more (by omega), hdl8, HSZ.out⟩
      | true =>
        by_cases hds : ds = []
        · obtain ⟨Au, capu, hu, hleu⟩ := C2.out.row.slice
          have C2' := C2
          subst hds
          simp only [List.length_nil] at hu
          subst hu
          go_wp2_with fail
          go_ret
          exact ⟨_, [], rfl, C2'.out.more (by omega), by simp, HSZ.out⟩
        · have hpos : 0 < ds.length := List.length_pos_iff.2 hds
          obtain ⟨go, capg, rest, hv, hleg, hBg, hglt, hmg, hblk, hrg⟩ := C2.out.row.form hds
          subst hv
          have hp2 : (0 : Int) < ds.length := by omega
          clear hblk hglt
          go_wp2_with fail
          refine (C2.out.lw.next' _ (by omega) (by omega) (by omega)).mono ?_
          rintro e W3 ⟨p, rfl, p0, p1, Lq, gq, -⟩
          have C3 := Lib.hid (C2.out.asked Lq gq)
          clear Lq gq C2
          obtain ⟨p, rfl⟩ := Int.eq_ofNat_of_zero_le p0
          go_wp2_with fail
          refine (C3.out.lw.next' 3 (by omega) (by omega) (by omega)).mono ?_
          rintro e W4 ⟨sw, rfl, sw0, sw1, Lq, gq, -⟩
          have C4 := Lib.hid (C3.out.asked Lq gq)
          clear Lq gq C3
          have hcs : sw = 0 ∨ sw = 1 ∨ sw = 2 := by omega
          have hpl : p < ds.length := by omega
          have hkp := HSZ.out _ (List.getElem_mem hpl)
          rcases hcs with rfl | rfl | rfl
          · have hne := C4.out.lw.lt
            have hSt : StrsW (W4.alloc (.cells #[.string ⟨#[]⟩, .string ⟨#[115, 97]⟩, .string ⟨#[83]⟩] 9)) (some ⟨W4.heap.size, 0, none⟩) [⟨#[]⟩, ⟨#[115, 97]⟩, ⟨#[83]⟩] := StrsW.of_row (heap_at rfl) rfl
            have HSt := Lib.hid hSt
            clear hSt
            go_wp2_with fail
            refine ((C4.out.alloc _).lw.one _ _ [⟨#[]⟩, ⟨#[115, 97]⟩, ⟨#[83]⟩] HSt.out (fun b off e => by injection e with e; injection e with e1 e2; omega) (by simp) (by simp) (by omega)).mono ?_
            rintro e W5 ⟨z, rfl, hz, Lq, gq, -⟩
            have C5 := Lib.hid ((C4.out.alloc _).asked Lq gq)
            clear Lq gq HSt hne C4
            have C6 := C5.out
            obtain ⟨cell1, fr1, hfin⟩ := C6.upd hpl (j := 0) (by omega) ⟨z, ds[p].person, ds[p].letter, ds[p].at_⟩ (x := .string z) rfl (by intro m hm hne; have : m = 1 ∨ m = 2 ∨ m = 3 := (by omega); rcases this with rfl | rfl | rfl <;> rfl)
            try simp only [Nat.add_zero] at cell1 fr1 hfin
            have HFIN := Lib.hid hfin
            have HKB := Lib.hid (HSZ.out.set (p := p) (d := ⟨z, ds[p].person, ds[p].letter, ds[p].at_⟩) ⟨size1 hz (by decide), hkp.2⟩)
            clear C5 C6 hfin hz
            go_wp2_with fail
            go_ret
            exact ⟨_, _, rfl, HFIN.out.more (by omega), by simpa using hdl8, HKB.out⟩
          · have hne := C4.out.lw.lt
            have hIn : Ints (W4.alloc (.cells #[.int .i64 (-1), .int .i64 4321440, .int .i64 0] 3)) (some ⟨W4.heap.size, 0, none⟩) [-1, 4321440, 0] := Ints.of_row (heap_at rfl) rfl
            have HIn := Lib.hid hIn
            clear hIn
            go_wp2_with fail
            refine ((C4.out.alloc _).lw.pick _ _ [-1, 4321440, 0] HIn.out (fun b off e => by injection e with e; injection e with e1 e2; omega) (by simp) (by simp) (by omega)).mono ?_
            rintro e W5 ⟨z, rfl, hz, Lq, gq, -⟩
            have C5 := Lib.hid ((C4.out.alloc _).asked Lq gq)
            clear Lq gq HIn hne C4
            have C6 := C5.out
            obtain ⟨cell1, fr1, hfin⟩ := C6.upd hpl (j := 3) (by omega) ⟨ds[p].id, ds[p].person, ds[p].letter, z⟩ (x := .int .i64 z) rfl (by intro m hm hne; have : m = 0 ∨ m = 1 ∨ m = 2 := (by omega); rcases this with rfl | rfl | rfl <;> rfl)
            try simp only [Nat.add_zero] at cell1 fr1 hfin
            have HFIN := Lib.hid hfin
            have HKB := Lib.hid (HSZ.out.set (p := p) (d := ⟨ds[p].id, ds[p].person, ds[p].letter, z⟩) ⟨hkp.1, hkp.2.1, hkp.2.2.1, by show -10000000 ≤ z; simp at hz; omega, by show z ≤ 10000000; simp at hz; omega⟩)
            clear C5 C6 hfin hz
            go_wp2_with fail
            go_ret
            exact ⟨_, _, rfl, HFIN.out.more (by omega), by simpa using hdl8, HKB.out⟩
          · have hne := C4.out.lw.lt
            have hSt : StrsW (W4.alloc (.cells #[.string ⟨#[]⟩, .string ⟨#[88]⟩] 9)) (some ⟨W4.heap.size, 0, none⟩) [⟨#[]⟩, ⟨#[88]⟩] := StrsW.of_row (heap_at rfl) rfl
            have HSt := Lib.hid hSt
            clear hSt
            go_wp2_with fail
            refine ((C4.out.alloc _).lw.one _ _ [⟨#[]⟩, ⟨#[88]⟩] HSt.out (fun b off e => by injection e with e; injection e with e1 e2; omega) (by simp) (by simp) (by omega)).mono ?_
            rintro e W5 ⟨z, rfl, hz, Lq, gq, -⟩
            have C5 := Lib.hid ((C4.out.alloc _).asked Lq gq)
            clear Lq gq HSt hne C4
            have C6 := C5.out
            obtain ⟨cell1, fr1, hfin⟩ := C6.upd hpl (j := 2) (by omega) ⟨ds[p].id, ds[p].person, z, ds[p].at_⟩ (x := .string z) rfl (by intro m hm hne; have : m = 0 ∨ m = 1 ∨ m = 3 := (by omega); rcases this with rfl | rfl | rfl <;> rfl)
            try simp only [Nat.add_zero] at cell1 fr1 hfin
            have HFIN := Lib.hid hfin
            have HKB := Lib.hid (HSZ.out.set (p := p) (d := ⟨ds[p].id, ds[p].person, z, ds[p].at_⟩) ⟨hkp.1, hkp.2.1, size1 hz (by decide), hkp.2.2.2⟩)
            clear C5 C6 hfin hz
            go_wp2_with fail
            go_ret
            exact ⟨_, _, rfl, HFIN.out.more (by omega), by simpa using hdl8, HKB.out⟩
end Go.Proofs.Ytecbejmeejepmaa
