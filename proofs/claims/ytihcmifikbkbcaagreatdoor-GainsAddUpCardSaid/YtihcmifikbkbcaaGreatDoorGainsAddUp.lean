/- What letters did, and what none did, add up to all that was done: the law returns true. -/
import Derived.Test.YtihcmifikbkbcaaGreatDoorQF
import Derived.Test.YtihcmifikbkbcaaGreatDoorQC
namespace Go.Proofs.YtihcmifikbkbcaaGreatDoor
set_option linter.unusedVariables false
open Go.RowKit
theorem Lw.with_ {w W : World} {bs K : Nat} {H H' : Frz} (h : Lw w bs K H W) (hi : H'.In W) (ha : H' bs = none) : Lw w bs K H' W := ⟨h.st, h.bel, h.le, hi, ha⟩
theorem totC_take {cs : List CrD} {i : Nat} (h : i < cs.length) : totC (cs.take (i + 1)) = totC (cs.take i) + cs[i].cents := by
  rw [List.take_succ_eq_append_getElem h, totC_snoc]
theorem totC_take_le (cs : List CrD) (i : Nat) : totC (cs.take i) ≤ totC cs := by
  unfold totC
  rw [List.map_take]
  exact Hb.sum_take_le _ _
set_option maxHeartbeats 8000000 in
set_option maxRecDepth 100000 in
theorem gainsAddUp_walk (a0 : Option Addr) (len0 cap0 : Nat) (z0 : List Int) (w : World) (w0 : IsRow .i64 w a0 len0 cap0 z0) :
    Calls Tryz.prog 3 #[.slice a0 len0 cap0] w fun e w' => e = .returned (.bool true) ∧ Below w.heap.size w w' := by
  have L := Lw.new w0
  go_enter Tryz.func3, Tryz.ntmps3
  go_wp2_with fail
  refine (L.sentListN (by omega)).mono ?_
  rintro e W1 ⟨v, ss, rfl, C, hsl, hsz⟩
  obtain ⟨A, cap, H2, hv, hlec, q1, q2, hR, q3⟩ := Orow.freezeN C.row _
  have hle2 := q2 C.2.2.1
  have L2 : Lw w w.heap.size 600 H2 W1 := (C.lw.more (by omega)).with_ (q1 C.lw.fin) (by rw [q3 _ (fun e => by have := (Orow.lt C.row e).1; have := C.2.2.2.1; omega)]; exact C.lw.apart)
  have HL2 := Lib.hid L2
  have HR2 := Lib.hid hR
  have HS := Lib.hid hsz
  subst hv
  clear L C q1 q2 q3 hR L2 w0 hle2 hsz
  go_wp2_with fail
  refine (HL2.out.gains (by omega)).mono ?_
  rintro e W2 ⟨v, gs, rfl, C, hgl, hsz⟩
  obtain ⟨A2, cap2, H3, hv, hlec2, q1, q2, hRg, q3⟩ := Orow.freezeN C.row H2
  have hle3 := q2 C.2.2.1
  have L3 : Lw w w.heap.size 800 H3 W2 := (C.lw.more (by omega)).with_ (q1 C.lw.fin) (by rw [q3 _ (fun e => by have := (Orow.lt C.row e).1; have := C.2.2.2.1; omega)]; exact C.lw.apart)
  have HL3 := Lib.hid L3
  have HR3 := Lib.hid (HR2.out.le hle3)
  have HRG := Lib.hid hRg
  have HSG := Lib.hid hsz
  subst hv
  clear C q1 q2 q3 hRg L3 hle3 HL2 HR2 hsz
  go_wp2_with fail
  refine (HL3.out.range 1 6 (by omega) (by omega) (by omega) (by omega)).mono ?_
  rintro e W3 ⟨how, rfl, hh1, hh6, L4, -, -⟩
  have HL4 := Lib.hid L4
  clear L4 HL3
  have hne := HL4.out.lt
  have hIn : Ints (W3.alloc (.cells #[.int .i64 1, .int .i64 50, .int .i64 300, .int .i64 1000] 3)) (some ⟨W3.heap.size, 0, none⟩) [1, 50, 300, 1000] := Ints.of_row (heap_at rfl) rfl
  have HIn := Lib.hid hIn
  clear hIn
  go_wp2_with fail
  refine ((HL4.out.alloc _).pick _ _ [1, 50, 300, 1000] HIn.out (fun b off e => by injection e with e; injection e with e1 e2; omega) (by simp) (by simp) (by omega)).mono ?_
  rintro e W4 ⟨span, rfl, hsp, L5, -, -⟩
  have hsp2 : 1 ≤ span ∧ span ≤ 1000 := by simp at hsp; omega
  have HL5 := Lib.hid L5
  clear L5 HIn hne HL4 hsp
  go_wp2_with fail
  refine (attribute_any H3 A cap ss A2 cap2 gs how span W4 HL5.out.fin HR3.out HS.out (by omega) hlec HRG.out HSG.out (by omega) hlec2 hh1 hh6 hsp2.1 (by omega)).mono ?_
  rintro e W5 ⟨hb5, hres⟩
  have HL6 := Lib.hid (HL5.out.call hb5)
  rcases hres with ⟨k, hk0, hke, rfl⟩ | ⟨hs0, hg0, vo, os, nn, rfl, hO, hsum, hok⟩
  · have hk1 : (k != 0) = true := by simpa using hk0
    have HKE := Lib.hid hke
    have HK0 := Lib.hid hk0
    clear hb5 hke hk0 HL5
    go_wp2_with fail
    refine (measures_any W5).mono ?_
    rintro e W6 ⟨rfl, hb6⟩
    have HL7 := Lib.hid (HL6.out.call hb6)
    clear hb6 HL6
    go_wp2_with fail
    refine (sentFault_any H3 A cap ss W6 HL7.out.fin HR3.out HS.out (by omega) hlec).mono ?_
    rintro e W7 ⟨k7, rfl, hk7, hb7⟩
    have HL8 := Lib.hid (HL7.out.call hb7)
    clear hb7 HL7
    by_cases h7 : k7 = 0
    · have HGE : Hid (IsErr (gainAt gs) gs.length k) := by
        rcases HKE.out with h | ⟨-, h⟩
        · have := IsErr.one h hk7
          exact absurd (this.trans h7) HK0.out
        · exact h
      subst h7
      clear hk7 HKE
      go_wp2_with fail
      refine (gainsFault_any H3 A2 cap2 gs W7 HL8.out.fin HRG.out HSG.out (by omega) hlec2).mono ?_
      rintro e W8 ⟨k8, rfl, hk8, hb8⟩
      have HL9 := Lib.hid (HL8.out.call hb8)
      have h8 : k8 ≠ 0 := by rw [IsErr.one hk8 HGE.out]; exact HK0.out
      have h8b : (k8 != 0) = true := by simpa using h8
      clear hb8 hk8 HGE h8 HL8
      go_wp2_with fail
      go_ret
      exact ⟨rfl, HL9.out.bel⟩
    · have h7b : (k7 != 0) = true := by simpa using h7
      clear hk7 HKE h7
      go_wp2_with fail
      go_ret
      exact ⟨rfl, HL8.out.bel⟩
  · obtain ⟨Ao, capo, H4, hv, hleo, q1, q2, hRo, q3⟩ := Orow.freezeN hO H3
    have hol : (os.length : Int) ≤ 9223372036854775807 := by
      have h1 : os.length ≤ maxLen := by
        rcases hO.2 with ⟨-, h⟩ | ⟨_, _, _, _, _, _, h1, h2, _⟩
        · omega
        · omega
      unfold maxLen at h1
      omega
    have hle4 := q2 (fun g hg => HL5.out.fin.none_ (Orow.lt hO hg).1)
    have HIN := Lib.hid (q1 HL6.out.fin)
    have HRO := Lib.hid hRo
    have HRG4 := Lib.hid (HRG.out.le hle4)
    have HOK := Lib.hid hok
    have HSUM := Lib.hid hsum
    have HCE : Hid (∀ i (h : i < gs.length), 0 ≤ gs[i].cents ∧ gs[i].cents ≤ 1000000000000) := fun i h => by
      have := hg0.all i h
      rw [gainAt_eq h] at this
      exact (gainErr_ok this).2
    have HAB : Hid (allG gs ≤ 100000000000000) := allG_bound (fun g hg => by obtain ⟨i, hi, rfl⟩ := List.getElem_of_mem hg; have := HCE.out i hi; omega) (by omega)
    have HBB := Lib.hid HL6.out.bel
    have HTK : Hid (∀ i, allG (gs.take i) ≤ allG gs) := fun i => by unfold allG; rw [List.map_take]; exact Hb.sum_take_le _ _
    subst hv
    clear hb5 hO hsum hok q1 q2 q3 hRo hle4 hs0 hg0 HL5 HL6 HR3 HRG
    go_wp2_with fail
    go_loopw [11, 52] (fun v t wr => ∃ i : Nat, i ≤ gs.length ∧ t = .int .i64 i ∧ v = .int .i64 ((allG (gs.take i) : Nat) : Int) ∧ Hid (H4.In wr) ∧ Hid (Below w.heap.size w wr)) (fun _ t _ => gs.length - (intOf t).toNat)
    case atStart => exact ⟨0, by omega, rfl, rfl, HIN, HBB⟩
    case round =>
      clear HIN HBB
      obtain ⟨i, hi, rfl, rfl, J, JB⟩ := hrel
      by_cases hlt : i < gs.length
      · obtain ⟨b, off, hA, _, hc⟩ := HRG4.out.at_ J.out hlt (by omega)
        subst hA
        have c0 : wr.cell? ⟨b, off + i * 4, none⟩ = some (.string gs[i].id) := hc 0 (by omega)
        have c1 : wr.cell? ⟨b, off + i * 4 + 1, none⟩ = some (.string gs[i].person) := hc 1 (by omega)
        have c2 : wr.cell? ⟨b, off + i * 4 + 2, none⟩ = some (.int .i64 gs[i].at_) := hc 2 (by omega)
        have c3 : wr.cell? ⟨b, off + i * 4 + 3, none⟩ = some (.int .i64 gs[i].cents) := hc 3 (by omega)
        have hce := HCE.out i hlt
        have HSU := Lib.hid (allG_succ hlt)
        have hb1 := HTK.out (i + 1)
        have hb2 := HAB.out
        have hlt2 : (i : Int) < gs.length := by omega
        rw [HSU.out] at hb1
        clear hc
        generalize gs[i] = g at *
        generalize hq1 : allG (gs.take (i + 1)) = q1 at HSU
        have HQ1 := Lib.hid hq1
        clear hq1
        generalize allG (gs.take i) = q0 at *
        obtain ⟨c, hcc⟩ := Int.eq_ofNat_of_zero_le hce.1
        have hbb : q0 + c ≤ 100000000000000 := by have : g.cents.toNat = c := by omega
                                                  omega
        have HSQ : Hid ((q1 : Int) = (q0 : Int) + (c : Int)) := by
          show _ = _
          rw [HSU.out]; omega
        rw [hcc] at c3
        have J2 := Lib.hid (J.out.alloc (.cells #[.string g.id, .string g.person, .int .i64 g.at_, .int .i64 (c : Int)] 40))
        have JB2 := Lib.hid (JB.out.trans ((new1 (w := wr) (.cells #[.string g.id, .string g.person, .int .i64 g.at_, .int .i64 (c : Int)] 40)).mono JB.out.size))
        have C7 := Lib.hid (heap_alloc_new wr (.cells #[.string g.id, .string g.person, .int .i64 g.at_, .int .i64 (c : Int)] 40))
        clear J JB hb1 hb2 hcc hce
        go_upto_region 11 with (fail)
        generalize wr.alloc _ = W7 at *
        generalize wr.heap.size = gb at *
        clear c0 c1 c2 c3
        have x3 : W7.cell? ⟨gb, 3, none⟩ = some (.int .i64 (c : Int)) := cell_h C7.out 3 rfl
        have hbi : (q0 : Int) + (c : Int) ≤ 100000000000000 := by omega
        go_wp2_with fail
        go_roundw
        case rel => exact ⟨i + 1, by omega, by go_num, by rw [HQ1.out, HSQ.out], J2, JB2⟩
        case measure => simp [intOf]; omega
      · have hie : i = gs.length := by omega
        subst hie
        rw [List.take_length]
        have hab := HAB.out
        go_wp2_with fail
        go_loopw [11, 63] (fun v t wr => ∃ j : Nat, j ≤ os.length ∧ t = .int .i64 j ∧ v = .int .i64 ((allG gs : Int) - ((totC (os.take j) : Nat) : Int)) ∧ Hid (H4.In wr) ∧ Hid (Below w.heap.size w wr)) (fun _ t _ => os.length - (intOf t).toNat)
        case atStart => exact ⟨0, by omega, rfl, by rw [List.take_zero]; show _ = Value.int .i64 ((allG gs : Int) - 0); rw [Int.sub_zero], J, JB⟩
        case round =>
          clear J JB
          obtain ⟨j, hj, rfl, rfl, J, JB⟩ := hrel
          by_cases hlt : j < os.length
          · obtain ⟨b, off, hA, _, hc⟩ := HRO.out.at_ J.out hlt (by omega)
            subst hA
            have c0 : wr.cell? ⟨b, off + j * 3, none⟩ = some (.string ⟨os[j].k.toArray⟩) := hc 0 (by omega)
            have c1 : wr.cell? ⟨b, off + j * 3 + 1, none⟩ = some (.int .i64 (os[j].gains : Nat)) := hc 1 (by omega)
            have c2 : wr.cell? ⟨b, off + j * 3 + 2, none⟩ = some (.int .i64 (os[j].cents : Nat)) := hc 2 (by omega)
            have hok := HOK.out _ (List.getElem_mem hlt)
            have HSU := Lib.hid (totC_take hlt)
            have hb1 := totC_take_le os (j + 1)
            have hb2 := HSUM.out
            have hlt2 : (j : Int) < os.length := by omega
            rw [HSU.out] at hb1
            clear hc
            generalize os[j] = d at *
            generalize hq1 : totC (os.take (j + 1)) = q1 at HSU
            have HQ1 := Lib.hid hq1
            clear hq1
            generalize totC (os.take j) = q0 at *
            have hbb : q0 + d.cents ≤ allG gs := by omega
            have J2 := Lib.hid (J.out.alloc (.cells #[.string ⟨d.k.toArray⟩, .int .i64 (d.gains : Nat), .int .i64 (d.cents : Nat)] 42))
            have JB2 := Lib.hid (JB.out.trans ((new1 (w := wr) (.cells #[.string ⟨d.k.toArray⟩, .int .i64 (d.gains : Nat), .int .i64 (d.cents : Nat)] 42)).mono JB.out.size))
            have C7 := Lib.hid (heap_alloc_new wr (.cells #[.string ⟨d.k.toArray⟩, .int .i64 (d.gains : Nat), .int .i64 (d.cents : Nat)] 42))
            clear J JB hb1 hb2
            go_upto_region 16 with (fail)
            generalize wr.alloc (.cells #[.string ⟨d.k.toArray⟩, .int .i64 (d.gains : Nat), .int .i64 (d.cents : Nat)] 42) = W7 at *
            generalize wr.heap.size = cb at *
            clear c0 c1 c2
            have x1 : W7.cell? ⟨cb, 1, none⟩ = some (.int .i64 (d.gains : Nat)) := cell_h C7.out 1 rfl
            have x2 : W7.cell? ⟨cb, 2, none⟩ = some (.int .i64 (d.cents : Nat)) := cell_h C7.out 2 rfl
            have hw : IntKind.i64.wrap ((allG gs : Int) - (q0 : Int) - (d.cents : Int)) = (allG gs : Int) - (q0 : Int) - (d.cents : Int) := IntWalk.i64_in _ (by omega)
            have HS3 : Hid ((allG gs : Int) - (q0 : Int) - (d.cents : Int) = (allG gs : Int) - (q1 : Int)) := by show _ = _; rw [HSU.out]; omega
            have HS4 : Hid ((allG gs : Int) - ((q0 : Int) + (d.cents : Int)) = (allG gs : Int) - (q1 : Int)) := by show _ = _; rw [HSU.out]; omega
            have k1 : ¬ (d.gains : Int) < 1 := by omega
            have k2 : ¬ (gs.length : Int) < (d.gains : Int) := by omega
            have k3 : ¬ (d.cents : Int) < 0 := by omega
            have k4 : decide ((d.gains : Int) < 1) = false := decide_eq_false k1
            have k5 : decide ((gs.length : Int) < (d.gains : Int)) = false := decide_eq_false k2
            have k6 : decide ((d.cents : Int) < 0) = false := decide_eq_false k3
            go_wp2_with fail
            go_roundw
            case rel => exact ⟨j + 1, by omega, by go_num, by first | rw [HQ1.out, HS3.out] | rw [HQ1.out, HS4.out], J2, JB2⟩
            case measure => simp [intOf]; omega
          · have hje : j = os.length := by omega
            subst hje
            rw [List.take_length]
            have hfin : (allG gs : Int) - ((totC os : Nat) : Int) = (nn : Int) := by have := HSUM.out; omega
            rw [hfin]
            have heq : ((nn : Int) == (nn : Int)) = true := by simp
            clear hfin
            go_wp2_with fail
            refine (measures_any wr).mono ?_
            rintro e W6 ⟨rfl, hb6⟩
            have HB9 := Lib.hid (JB.out.trans (hb6.mono JB.out.size))
            clear hb6
            go_wp2_with fail
            go_ret
            exact ⟨rfl, HB9.out⟩
end Go.Proofs.YtihcmifikbkbcaaGreatDoor
