/- It does not matter which of two records, or texts, comes first: the law returns true. -/
import Derived.Test.YtbidhpgjmcedaaaGreatDoorGBB
import Derived.Test.YtbidhpgjmcedaaaGreatDoorGBC
import Derived.Test.YtbidhpgjmcedaaaGreatDoorGAW
import Derived.Test.YtbidhpgjmcedaaaGreatDoorGBD
namespace Go.Proofs.YtbidhpgjmcedaaaGreatDoor
set_option linter.unusedVariables false
open Go.RowKit
theorem RM.frozen {D : Type} {T k : Nat} {f : D → Nat → Value} {w W : World} {bs K : Nat} {H : Frz} {B : Nat} {v : Value} {ds : List D} (h : RM T k f w bs K H B v ds W) :
    ∃ A cap H', v = .slice A ds.length cap ∧ ds.length ≤ cap ∧ H.Le H' ∧ Lw w bs K H' W ∧ Rw H' A k f ds := by
  obtain ⟨A, cap, H', h1, h2, h3, h4, h5, h6⟩ := Orow.freezeN h.row H
  exact ⟨A, cap, H', h1, h2, h4 h.2.2.1, ⟨h.1.st, h.1.bel, h.1.le, h3 h.1.fin, (h6 bs (fun e => by have := (h.2.1.lt e).1; have := h.2.2.2.1; omega)).trans h.1.apart⟩, h5⟩
set_option maxHeartbeats 4000000 in
set_option maxRecDepth 100000 in
theorem pointsTurn_walk (a0 : Option Addr) (len0 cap0 : Nat) (z0 : List Int) (w : World) (w0 : IsRow .i64 w a0 len0 cap0 z0) (hG : GlobN w) :
    Calls Tryz.prog 3 #[.slice a0 len0 cap0] w fun e w' => e = .returned (.bool true) ∧ Below w.heap.size w w' := by
  have L := Lw.whole w0
  have HPE := Lib.hid (fun W hW => people_any (memH w) hG.utf hG.mlen W hW)
  have HUT := Lib.hid hG.utf
  have HNM := Lib.hid hG.names
  clear hG w0
  go_enter Tryz.func3, Tryz.ntmps3
  go_wp2_with fail
  refine (L.measures (by omega) HNM.out).mono ?_
  rintro e W1 ⟨v1, ms, rfl, C1, hml, hmb⟩
  obtain ⟨Am, cm, H1, rfl, -, le1, L1, RM1⟩ := C1.1.frozen
  have HL1 := Lib.hid L1
  have HLE1 := Lib.hid le1
  have HRM := Lib.hid RM1
  have HMB := Lib.hid hmb
  clear L C1 L1 le1 RM1 hmb
  go_wp2_with fail
  refine (HL1.out.fields (by omega) (HNM.out.le HLE1.out) 5 (by omega)).mono ?_
  rintro e W2 ⟨v2, fa, rfl, C2, hal, hab, -⟩
  obtain ⟨Aa, ca, H2, rfl, -, le2, L2, RA2⟩ := C2.frozen
  have HL2 := Lib.hid L2
  have HLE2 := Lib.hid (HLE1.out.trans le2)
  have HRM2 := Lib.hid (HRM.out.le le2)
  have HRA := Lib.hid RA2
  have HAB := Lib.hid hab
  clear HL1 C2 L2 le2 RA2 hab HLE1 HRM
  go_wp2_with fail
  refine (HL2.out.fields (by omega) (HNM.out.le HLE2.out) 5 (by omega)).mono ?_
  rintro e W3 ⟨v3, fb, rfl, C3, hbl, hbb, -⟩
  obtain ⟨Ab, cb, H3, rfl, -, le3, L3, RB3⟩ := C3.frozen
  have HL3 := Lib.hid L3
  have HLE3 := Lib.hid (HLE2.out.trans le3)
  have HRM3 := Lib.hid (HRM2.out.le le3)
  have HRA3 := Lib.hid (HRA.out.le le3)
  have HRB3 := Lib.hid RB3
  have HBB := Lib.hid hbb
  clear HL2 C3 L3 le3 RB3 hbb HLE2 HRM2 HRA HNM
  have HU3 := Lib.hid (HUT.out.le HLE3.out)
  have HPE3 : Hid (∀ W, H3.In W → Calls Tryz.prog 15 #[] W fun e w' => e = .returned (.bool true) ∧ Below W.heap.size W w') := fun W hW => HPE.out W (hW.le HLE3.out)
  have HCM := Lib.hid (fun W (hW : H3.In W) => checkMeasures_any H3 Am cm ms W hW HRM3.out (by omega) (fun m hm => by have := HMB.out m hm; omega))
  have HCA := Lib.hid (fun W (hW : H3.In W) => checkFields_any H3 HU3.out Aa ca fa W hW HRA3.out (by omega) (fun f hf => by have := HAB.out f hf; omega))
  have HCB := Lib.hid (fun W (hW : H3.In W) => checkFields_any H3 HU3.out Ab cb fb W hW HRB3.out (by omega) (fun f hf => by have := HBB.out f hf; omega))
  have HP1 := Lib.hid (fun W (hW : H3.In W) h1 h2 h3 => Points_any H3 HU3.out Am Aa Ab cm ca cb ms fa fb W hW HRM3.out HRA3.out HRB3.out h1 h2 h3 (fun m hm => by have := HMB.out m hm; omega) (fun f hf => by have := HAB.out f hf; omega) (fun f hf => by have := HBB.out f hf; omega))
  have HP2 := Lib.hid (fun W (hW : H3.In W) h1 h2 h3 => Points_any H3 HU3.out Am Ab Aa cm cb ca ms fb fa W hW HRM3.out HRB3.out HRA3.out h1 h2 h3 (fun m hm => by have := HMB.out m hm; omega) (fun f hf => by have := HBB.out f hf; omega) (fun f hf => by have := HAB.out f hf; omega))
  have HDI := Lib.hid (fun a b W (hW : H3.In W) h1 h2 => Distance_any H3 HU3.out a b W hW h1 h2)
  clear HPE HUT HLE3 HRM3 HRA3 HRB3 HMB HAB HBB HU3
  go_wp2_with fail
  refine (HCM.out W3 HL3.out.fin).mono ?_
  rintro e W4 ⟨rfl, hb4⟩
  have HL4 := Lib.hid (HL3.out.call hb4)
  clear hb4 HL3 HCM
  by_cases g1 : msE ms = 0
  rotate_left
  · have k1 : (msE ms != 0) = true := by simpa using g1
    clear g1
    go_wp2_with fail
    refine (HPE3.out _ HL4.out.fin).mono ?_
    rintro e W5 ⟨rfl, hb5⟩
    have HF := Lib.hid (HL4.out.call hb5).bel
    clear hb5
    go_wp2_with fail
    exact bodyPost_ret (by kernel_rfl) rfl ⟨rfl, HF.out⟩
  have k1 : (msE ms != 0) = false := by simpa using g1
  have G1 := Lib.hid g1
  clear g1
  go_wp2_with fail
  refine (HCA.out W4 HL4.out.fin).mono ?_
  rintro e W5 ⟨rfl, hb5⟩
  have HL5 := Lib.hid (HL4.out.call hb5)
  clear hb5 HL4 HCA
  by_cases g2 : fdsE okT fa = 0
  rotate_left
  · have k2 : (fdsE okT fa != 0) = true := by simpa using g2
    clear g2
    go_wp2_with fail
    refine (HPE3.out _ HL5.out.fin).mono ?_
    rintro e W6 ⟨rfl, hb6⟩
    have HF := Lib.hid (HL5.out.call hb6).bel
    clear hb6
    go_wp2_with fail
    exact bodyPost_ret (by kernel_rfl) rfl ⟨rfl, HF.out⟩
  have k2 : (fdsE okT fa != 0) = false := by simpa using g2
  have G2 := Lib.hid g2
  clear g2
  go_wp2_with fail
  refine (HCB.out W5 HL5.out.fin).mono ?_
  rintro e W6 ⟨rfl, hb6⟩
  have HL6 := Lib.hid (HL5.out.call hb6)
  clear hb6 HL5 HCB
  by_cases g3 : fdsE okT fb = 0
  rotate_left
  · have k3 : (fdsE okT fb != 0) = true := by simpa using g3
    clear g3
    go_wp2_with fail
    refine (HPE3.out _ HL6.out.fin).mono ?_
    rintro e W7 ⟨rfl, hb7⟩
    have HF := Lib.hid (HL6.out.call hb7).bel
    clear hb7
    go_wp2_with fail
    exact bodyPost_ret (by kernel_rfl) rfl ⟨rfl, HF.out⟩
  have k3 : (fdsE okT fb != 0) = false := by simpa using g3
  have hp1 := Lib.hid (fun W (hW : H3.In W) => HP1.out W hW G1.out G2.out g3)
  have hp2 := Lib.hid (fun W (hW : H3.In W) => HP2.out W hW G1.out g3 G2.out)
  rw [scoreL_comm ptS ms fb fa] at hp2
  clear g3 G1 G2 HP1 HP2
  generalize scoreL ptS ms fa fb = sc at *
  go_wp2_with fail
  refine (hp1.out W6 HL6.out.fin).mono ?_
  rintro e W7 ⟨rfl, hb7⟩
  have HL7 := Lib.hid (HL6.out.call hb7)
  clear hb7 HL6 hp1
  go_wp2_with fail
  refine (hp2.out W7 HL7.out.fin).mono ?_
  rintro e W8 ⟨rfl, hb8⟩
  have HL8 := Lib.hid (HL7.out.call hb8)
  clear hb8 HL7 hp2
  go_wp2_with fail
  refine (HL8.out.value (by omega)).mono ?_
  rintro e W9 ⟨d1, rfl, hd1, L9, -⟩
  have HL9 := Lib.hid L9
  have hf1 : ∀ W, (Instr.field 37 (.agg #[.int .i64 d1.kind, .string d1.text, .int .i64 d1.num]) 1).run Tryz.prog W = .ok (.string d1.text) W := fun W => by kernel_rfl
  clear L9 HL8
  unfold vV
  go_wp2_with fail
  refine (HL9.out.value (by omega)).mono ?_
  rintro e W10 ⟨d2, rfl, hd2, L10, -⟩
  have HL10 := Lib.hid L10
  have hf2 : ∀ W, (Instr.field 37 (.agg #[.int .i64 d2.kind, .string d2.text, .int .i64 d2.num]) 1).run Tryz.prog W = .ok (.string d2.text) W := fun W => by kernel_rfl
  clear L10 HL9
  unfold vV
  go_wp2_with fail
  refine (HDI.out d1.text d2.text W10 HL10.out.fin (by omega) (by omega)).mono ?_
  rintro e W11 ⟨rfl, hb11⟩
  have HL11 := Lib.hid (HL10.out.call hb11)
  have HD2 := Lib.hid (HDI.out d2.text d1.text W11 HL11.out.fin (by omega) (by omega))
  rw [distE_comm d2.text, distN_comm d2.text] at HD2
  clear hb11 HL10 HDI hf1 hf2
  generalize distE d1.text d2.text = de at *
  generalize distN d1.text d2.text = dn at *
  go_wp2_with fail
  refine HD2.out.mono ?_
  rintro e W12 ⟨rfl, hb12⟩
  have HL12 := Lib.hid (HL11.out.call hb12)
  clear hb12 HL11 HD2
  go_wp2_with fail
  refine (HPE3.out _ HL12.out.fin).mono ?_
  rintro e W13 ⟨rfl, hb13⟩
  have HF := Lib.hid (HL12.out.call hb13).bel
  clear hb13
  go_wp2_with fail
  exact bodyPost_ret (by kernel_rfl) rfl ⟨rfl, HF.out⟩
end Go.Proofs.YtbidhpgjmcedaaaGreatDoor
