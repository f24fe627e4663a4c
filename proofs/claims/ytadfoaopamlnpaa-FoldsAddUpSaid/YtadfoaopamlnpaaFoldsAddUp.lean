/- The law FoldsAddUp returns true, whatever the numbers of its list. -/
import Derived.Test.YtadfoaopamlnpaaFoldsLaw
import Derived.Test.YtadfoaopamlnpaaMakeCells
import Derived.Test.YtadfoaopamlnpaaSigns
namespace Go.Proofs.Ytadfoaopamlnpaa
set_option linter.unusedVariables false
open Go.RowKit

theorem sum_snoc {ds : List CellD} {i : Nat} (h : i < ds.length) (f : CellD → Int) : ((ds.take (i + 1)).map f).sum = ((ds.take i).map f).sum + f ds[i] := by
  rw [List.take_succ_eq_append_getElem h, List.map_append, List.sum_append]; simp
theorem sum_many {ds : List CellD} (h : ∀ d ∈ ds, fullB d = true) : 0 ≤ (ds.map CellD.many).sum ∧ (ds.map CellD.many).sum ≤ ds.length * 1000000 ∧ -(ds.length * 1000000000000) ≤ (ds.map CellD.cents).sum ∧ (ds.map CellD.cents).sum ≤ ds.length * 1000000000000 := by
  induction ds with
  | nil => simp
  | cons d ds ih =>
    have h1 := ih fun y hy => h y (List.mem_cons_of_mem _ hy)
    have h2 := fullB_yes (h d List.mem_cons_self)
    simp only [List.map_cons, List.sum_cons, List.length_cons]
    omega
theorem rw_one {H : Frz} {g : Nat} {T : TypeId} (e : H g = some (.cells #[.int .i64 0] T (0, 0))) : Rw H (some ⟨g, 0, none⟩) 1 fI [0] := by
  intro i hi
  refine ⟨g, 0, rfl, fun j hj => ?_⟩
  obtain rfl : j = 0 := by omega
  obtain rfl : i = 0 := by simpa using hi
  unfold Frz.cell?
  rw [show (⟨g, 0 + 0 * 1 + 0, none⟩ : Addr).block = g from rfl, e]
  rfl

theorem one_of {ys : List CellD} {k : List ByteArray} {m n : Int} (h : ys.map CellD.data = [(k, m, n)]) : ∃ y, ys = [y] ∧ y.many = m ∧ y.cents = n := by
  cases ys with
  | nil => simp at h
  | cons y l =>
    cases l with
    | nil =>
      simp only [List.map_cons, List.map_nil, List.cons.injEq, CellD.data, Prod.mk.injEq] at h
      exact ⟨y, rfl, h.1.2.1, h.1.2.2⟩
    | cons z l => simp at h

set_option maxHeartbeats 4000000 in
set_option maxRecDepth 100000 in
theorem foldsAddUp_walk (a0 : Option Addr) (len0 cap0 : Nat) (z0 : List Int) (w : World) (w0 : IsRow .i64 w a0 len0 cap0 z0) :
    Calls Try.prog 6 #[.slice a0 len0 cap0] w fun e w' => e = .returned (.bool true) ∧ Below w.heap.size w w' := by
  have L := Lw.new w0
  go_enter Try.func6, Try.ntmps6
  go_wp2_with fail
  refine (L.cells (by omega)).mono ?_
  rintro e W1 ⟨v, H1, ds, rfl, le1, C, hdl⟩
  obtain ⟨A, cap, H2, hv, hlec, q1, q2, hR, -, -⟩ := C.2.2.1.freeze H1
  subst hv
  have hin := q1 C.1.fin
  have le2 := q2 C.2.2.2.1
  have hS : CellsR H2 ds := fun d hd => (C.2.1 d hd).le le2
  have HB1 := Lib.hid C.1.bel
  obtain ⟨H3, le3, h0, hin3⟩ := hin.put (.cells #[.int .i64 0] 3)
  have HR := Lib.hid (hR.le le3)
  have HS : Hid (CellsR H3 ds) := fun d hd => (hS d hd).le le3
  have hF1 := Lib.hid (fold_all H3 A (some ⟨W1.heap.size, 0, none⟩) cap 1 ds [0] _ hin3 HR.out HS.out (by omega) (rw_one h0) (by simp) (by simp))
  have HIN3 := Lib.hid hin3
  clear L C q1 q2 hR hin le2 hS le3 h0 hin3 le1
  go_wp2_with fail
  refine hF1.out.mono ?_
  clear hF1
  rintro e W2 hF
  rcases hF with ⟨n, hn, rfl, hb, -⟩ | ⟨v1, H4, xs, rfl, hOK, le4, hin4, hS4, hd4, hO4, hf4, hk4, hb4, hn4⟩
  · have hn1 : (n != 0) = true := by simpa using hn
    have HB2 := Lib.hid ((HB1.out.alloc HB1.out.size (.cells #[.int .i64 0] 3)).trans (hb.mono (Nat.le_trans HB1.out.size (by simp))))
    have hF2 := Lib.hid (fold_all H3 A none cap 0 ds [] W2 (HIN3.out.below hb) HR.out HS.out (by omega) Rw.nil (by simp) (by simp))
    clear hn hb
    go_wp2_with fail
    refine hF2.out.mono ?_
    clear hF2
    rintro e W3 hF
    rcases hF with ⟨m, hm, rfl, hb, -⟩ | ⟨v1, H4, xs, rfl, -, -, -, -, -, -, -, -, hb, -⟩
    all_goals
      have HB3 := Lib.hid (HB2.out.trans (hb.mono HB2.out.size))
      clear hb
      go_wp2_with fail
      refine (measures_any _).mono ?_
      rintro e W4 ⟨rfl, hb4⟩
      have HB4 := Lib.hid (HB3.out.trans (hb4.mono HB3.out.size))
      clear hb4
      go_wp2_with fail
      go_ret
      exact ⟨rfl, HB4.out⟩
  · have HB2 := Lib.hid ((HB1.out.alloc HB1.out.size (.cells #[.int .i64 0] 3)).trans (hb4.mono (Nat.le_trans HB1.out.size (by simp))))
    obtain ⟨A1, cap1, H5, hv1, hlec1, q1, q2, hR1, -, -⟩ := hO4.freeze H4
    subst hv1
    have hin5 := q1 hin4
    have le5 := q2 hn4
    have HR1 := Lib.hid hR1
    have HS1 : Hid (CellsR H5 xs) := fun d hd => (hS4 d hd).le le5
    have HRd := Lib.hid (HR.out.le (le4.trans le5))
    have HSd : Hid (CellsR H5 ds) := fun d hd => (HS.out d hd).le (le4.trans le5)
    have HD1 := Lib.hid hd4
    have HOK := Lib.hid hOK
    obtain ⟨hOKx, hxl⟩ := fold_right hOK (hk4 0 (by simp)) hd4 (by omega) hf4
    have HOKX := Lib.hid hOKx
    have hF2 := Lib.hid (fold_all H5 A none cap 0 ds [] W2 hin5 HRd.out HSd.out (by omega) Rw.nil (by simp) (by simp))
    clear hOK le4 hin4 hS4 hd4 hO4 hf4 hk4 hb4 hn4 q1 q2 hin5 le5 hOKx hR1 HR HS HIN3
    go_wp2_with fail
    refine hF2.out.mono ?_
    clear hF2
    rintro e W3 hF
    rcases hF with ⟨m, hm, rfl, hb, -⟩ | ⟨v2, H6, ys, rfl, -, le6, hin6, hS6, hd6, hO6, hf6, -, hb6, hn6⟩
    · have hm1 : (m != 0) = true := by simpa using hm
      have HB3 := Lib.hid (HB2.out.trans (hb.mono HB2.out.size))
      clear hb hm
      go_wp2_with fail
      refine (measures_any _).mono ?_
      rintro e W4 ⟨rfl, hb4⟩
      have HB4 := Lib.hid (HB3.out.trans (hb4.mono HB3.out.size))
      clear hb4
      go_wp2_with fail
      go_ret
      exact ⟨rfl, HB4.out⟩
    · have HB3 := Lib.hid (HB2.out.trans (hb6.mono HB2.out.size))
      obtain ⟨A2, cap2, H7, hv2, hlec2, q1, q2, hR2, -, -⟩ := hO6.freeze H6
      subst hv2
      have hin7 := q1 hin6
      have le7 := q2 hn6
      have HR2 := Lib.hid hR2
      have HS2 : Hid (CellsR H7 ys) := fun d hd => (hS6 d hd).le le7
      have HRx := Lib.hid (HR1.out.le (le6.trans le7))
      have HSx : Hid (CellsR H7 xs) := fun d hd => (HS1.out d hd).le (le6.trans le7)
      have HRd7 := Lib.hid (HRd.out.le (le6.trans le7))
      have HSd7 : Hid (CellsR H7 ds) := fun d hd => (HSd.out d hd).le (le6.trans le7)
      have HD2 := Lib.hid hd6
      have HF6 := Lib.hid hf6
      have hyl : ys.length ≤ 20 := by
        have h1 := congrArg List.length hd6
        have h2 := kfold_len (ds.map (proj []))
        simp at h1 h2
        omega
      have hF3 := Lib.hid (fold_all H7 A1 none cap1 0 xs [] W3 hin7 HRx.out HSx.out (by omega) Rw.nil (by simp) (by simp))
      clear le6 hin6 hS6 hd6 hO6 hf6 hb6 hn6 q1 q2 hin7 le7 hR2 HRd HSd HR1 HS1
      go_wp2_with fail
      refine hF3.out.mono ?_
      clear hF3
      rintro e W4 hF
      rcases hF with ⟨m, hm, rfl, hb, hwhy⟩ | ⟨v3, H8, zs, rfl, -, le8, hin8, hS8, hd8, hO8, hf8, -, hb8, hn8⟩
      · exfalso
        rcases hwhy with h | h | h
        · exact h HOKX.out
        · exact h rfl
        · apply h
          rw [fold_again HD1.out, ← HD2.out]
          intro y hy
          obtain ⟨d, hd, rfl⟩ := List.mem_map.1 hy
          exact HF6.out d hd
      · have HB4 := Lib.hid (HB3.out.trans (hb8.mono HB3.out.size))
        obtain ⟨A3, cap3, H9, hv3, hlec3, q1, q2, hR3, -, -⟩ := hO8.freeze H8
        subst hv3
        have hin9 := q1 hin8
        have le9 := q2 hn8
        have hzl : zs.length ≤ 20 := by
          have h1 := congrArg List.length hd8
          have h2 := kfold_len (xs.map (proj []))
          simp at h1 h2
          omega
        have hEq := allEq_data (HD2.out.trans ((fold_again HD1.out).symm.trans hd8.symm))
        have hSame := sameCells_any H9 A2 A3 cap2 cap3 ys zs W4 hin9 (HR2.out.le (le8.trans le9)) hR3 (fun d hd => (HS2.out d hd).le (le8.trans le9)) (fun d hd => (hS8 d hd).le le9) (by omega) (by omega)
        rw [hEq] at hSame
        have HSAME := Lib.hid hSame
        have HIN := Lib.hid (hin9.le (le8.trans le9))
        clear hSame hEq le8 hin8 hS8 hd8 hO8 hf8 hb8 hn8 q1 q2 hin9 le9 hR3 HOKX HF6
        go_wp2_with fail
        refine HSAME.out.mono ?_
        clear HSAME
        rintro e W5 ⟨rfl, hb5⟩
        have HB5 := Lib.hid (HB4.out.trans (hb5.mono HB4.out.size))
        have HIN5 := Lib.hid (HIN.out.below hb5)
        clear hb5 HIN HB4
        have hful : Hid (∀ d ∈ ds, fullB d = true) := fun d hd => by
          obtain ⟨i, hi, rfl⟩ := List.getElem_of_mem hd
          exact (HOK.out.2 i hi).2.2.2.2
        go_wp2_with fail
        go_loopw [11, 12, 53] (fun p q t wr => ∃ i : Nat, i ≤ ds.length ∧ t = .int .i64 i ∧ p = .int .i64 ((ds.take i).map CellD.many).sum ∧ q = .int .i64 ((ds.take i).map CellD.cents).sum ∧ Hid (Below W5.heap.size W5 wr)) (fun _ _ t _ => ds.length - (intOf t).toNat)
        case atStart => exact ⟨0, by omega, rfl, rfl, rfl, Below.refl _ _⟩
        case round =>
          obtain ⟨i, hi, rfl, rfl, rfl, J⟩ := hrel
          by_cases hlt : i < ds.length
          · obtain ⟨b, off, rfl, hbl, hc⟩ := HRd7.out.at_ (HIN5.out.below J.out) hlt (by omega)
            have c0 : wr.cell? ⟨b, off + i * 3, none⟩ = some (ds[i].kv) := hc 0 (by omega)
            have c1 : wr.cell? ⟨b, off + i * 3 + 1, none⟩ = some (.int .i64 ds[i].many) := hc 1 (by omega)
            have c2 : wr.cell? ⟨b, off + i * 3 + 2, none⟩ = some (.int .i64 ds[i].cents) := hc 2 (by omega)
            obtain ⟨Ai, capi, hkv, -⟩ := HSd7.out _ (List.getElem_mem hlt)
            rw [hkv] at c0
            have hfi := fullB_yes (hful.out _ (List.getElem_mem hlt))
            have hsb := sum_many (ds := ds.take i) (fun d hd => hful.out d (List.mem_of_mem_take hd))
            have htl : (ds.take i).length ≤ 8 := by simp; omega
            have s1 := Lib.hid (sum_snoc hlt CellD.many)
            have s2 := Lib.hid (sum_snoc hlt CellD.cents)
            generalize ds[i] = d at c0 c1 c2 hfi s1 s2
            generalize ((ds.take i).map CellD.many).sum = sm at hsb s1
            generalize ((ds.take i).map CellD.cents).sum = sc at hsb s2
            generalize (ds.take i).length = tl at hsb htl
            generalize d.keys.length = kl at c0
            have w1 : IntKind.i64.wrap (sm + d.many) = sm + d.many := IntWalk.i64_in _ (by omega)
            have w2 : IntKind.i64.wrap (sc + d.cents) = sc + d.cents := IntWalk.i64_in _ (by omega)
            clear hc hkv
            go_wp2_with fail
            go_quiet (fail)
            go_wp2_with fail
            go_roundw
            case rel => exact ⟨i + 1, by omega, by go_num, by rw [s1.out], by rw [s2.out], below_drewN (J.out.alloc J.out.size _) _⟩
            case measure => simp [intOf]; omega
          · obtain rfl : i = ds.length := by omega
            rw [List.take_length]
            by_cases hne : ds = []
            · have hy0 : ys = [] := by
                have h1 := HD2.out
                rw [hne, List.map_nil, kfold_nil.2 rfl] at h1
                simpa using h1
              subst hy0
              have hd0 : ds.length = 0 := by rw [hne]; rfl
              rw [hd0]
              clear hne hd0
              go_wp2_with fail
              refine (measures_any _).mono ?_
              rintro e W6 ⟨rfl, hb6⟩
              have HB6 := Lib.hid (HB5.out.trans ((J.out.trans (hb6.mono J.out.size)).mono HB5.out.size))
              have HIN6 := Lib.hid ((HIN5.out.below J.out).below hb6)
              clear hb6 J HB5 HIN5
              go_wp2_with fail
              go_ret
              exact ⟨rfl, HB6.out⟩
            · have hy1 : ∃ y, ys = [y] ∧ y.many = (ds.map CellD.many).sum ∧ y.cents = (ds.map CellD.cents).sum := by
                have h1 := HD2.out
                rw [fold_none hne] at h1
                exact one_of h1
              obtain ⟨y, rfl, y1, y2⟩ := hy1
              have hd0 : ((ds.length : Int) == 0) = false := by
                have : 0 < ds.length := List.length_pos_iff.2 hne
                simp; omega
              generalize (ds.map CellD.many).sum = sm at y1
              generalize (ds.map CellD.cents).sum = sc at y2
              clear hne
              go_wp2_with fail
              refine (measures_any _).mono ?_
              rintro e W6 ⟨rfl, hb6⟩
              have HB6 := Lib.hid (HB5.out.trans ((J.out.trans (hb6.mono J.out.size)).mono HB5.out.size))
              have HIN6 := Lib.hid ((HIN5.out.below J.out).below hb6)
              clear hb6 J HB5 HIN5
              obtain ⟨b, off, rfl, hbl, hc⟩ := HR2.out.at_ HIN6.out (show 0 < [y].length by simp) (by omega)
              have c1 : W6.cell? ⟨b, off + 1, none⟩ = some (.int .i64 sm) := by have := hc 1 (by omega); simpa [fC, y1] using this
              have c2 : W6.cell? ⟨b, off + 2, none⟩ = some (.int .i64 sc) := by have := hc 2 (by omega); simpa [fC, y2] using this
              clear hc y1 y2
              go_wp2_with fail
              go_ret
              exact ⟨rfl, HB6.out⟩
end Go.Proofs.Ytadfoaopamlnpaa
