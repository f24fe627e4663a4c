/- Texts of this claim, put together: BsfFd, Find, ChkMs, Score. -/
import Derived.Test.YtbidhpgjmcedaaaGreatDoorGAB
import Derived.Test.YtbidhpgjmcedaaaGreatDoorGAC
import Derived.Test.YtbidhpgjmcedaaaGreatDoorGAM
import Derived.StillTailTactics
import Derived.Deep.Cut
import Derived.Test.YtbidhpgjmcedaaaGreatDoorGAY
import Derived.Test.YtbidhpgjmcedaaaGreatDoorGAE
import Derived.Test.YtbidhpgjmcedaaaGreatDoorGAZ
import Derived.OwnWalk
/- BinarySearchFunc at elements of 4 cells. -/
namespace Go.Proofs.YtbidhpgjmcedaaaGreatDoor
set_option linter.unusedVariables false
open Go.RowKit

section
variable {D : Type}
set_option maxHeartbeats 1000000 in
set_option maxRecDepth 100000 in
theorem bsf_Fd (H : Frz) (f : D → Nat → Value) (kf : Nat) (tv : Value) (c : D → Int) (ds : List D) (hp : ∀ (W : World) (d : D), d ∈ ds → H.In W → Calls Tryz.prog kf #[.agg #[f d 0, f d 1, f d 2, f d 3], tv] W fun e W' => e = .returned (.int .i64 (c d)) ∧ Below W.heap.size W W')
    (hcall : ∀ (a b : Value) (W : World), (callFunc kf #[a, b]).run Tryz.prog W = .ok (.enter kf #[a, b]) W)
    (A : Option Addr) (cap : Nat) (w : World) (hH : H.In w) (hR : Rw H A 4 f ds) (hl : ds.length ≤ 1000000) (m : Nat) (hm : m ≤ ds.length) (hlo : ∀ i (h : i < ds.length), i < m → c ds[i] < 0) (hhi : ∀ i (h : i < ds.length), m ≤ i → 0 ≤ c ds[i]) :
    Calls Tryz.prog 209 #[.slice A ds.length cap, tv, .func (.func kf) #[] #[]] w fun e w' => e = .returned (.tuple #[.int .i64 m, .bool (hasAt c ds m)]) ∧ Below w.heap.size w w' := by
  have HP := Lib.hid hp
  have HR := Lib.hid hR
  have HH := Lib.hid hH
  have HLO := Lib.hid hlo
  have HHI := Lib.hid hhi
  clear hp hR hH hlo hhi
  go_enter Tryz.func209, Tryz.ntmps209
  go_wp2_with fail
  go_loopw [9, 10, 11] (fun ti tj _ wr => ∃ i j : Nat, i ≤ m ∧ m ≤ j ∧ j ≤ ds.length ∧ ti = .int .i64 i ∧ tj = .int .i64 j ∧ Hid (Below w.heap.size w wr)) (fun ti tj _ _ => (intOf tj - intOf ti).toNat)
  case atStart => exact ⟨0, ds.length, by omega, by omega, by omega, rfl, rfl, Below.refl _ _⟩
  case round =>
    obtain ⟨i, j, hi, hj, hjl, rfl, rfl, hb⟩ := hrel
    by_cases hlt : i < j
    · have e1 : IntKind.i64.wrap ((i : Int) + (j : Int)) = (i : Int) + (j : Int) := IntWalk.i64_in _ (by omega)
      obtain ⟨h, hh⟩ : ∃ h, h = (i + j) / 2 := ⟨_, rfl⟩
      have hhl : h < ds.length := by omega
      have hih : i ≤ h := by omega
      have hhj : h < j := by omega
      have k2 : ((i : Int) + (j : Int)) / 2 = (h : Int) := by omega
      obtain ⟨b, off, rfl, hbl, hc⟩ := HR.out.at_ (HH.out.below hb.out) hhl (by omega)
      have c0 : wr.cell? ⟨b, off + h * 4, none⟩ = some (f ds[h] 0) := hc 0 (by omega)
      have c1 : wr.cell? ⟨b, off + h * 4 + 1, none⟩ = some (f ds[h] 1) := hc 1 (by omega)
      have c2 : wr.cell? ⟨b, off + h * 4 + 2, none⟩ = some (f ds[h] 2) := hc 2 (by omega)
      have c3 : wr.cell? ⟨b, off + h * 4 + 3, none⟩ = some (f ds[h] 3) := hc 3 (by omega)
      have HC := Lib.hid (fun W hW => HP.out W ds[h] (List.getElem_mem hhl) hW)
      have HL := Lib.hid (HLO.out h hhl)
      have HU := Lib.hid (HHI.out h hhl)
      clear hc hh
      generalize hpd : c ds[h] = q at HC HL HU
      generalize f ds[h] 0 = x0 at c0 HC
      generalize f ds[h] 1 = x1 at c1 HC
      generalize f ds[h] 2 = x2 at c2 HC
      generalize f ds[h] 3 = x3 at c3 HC
      clear hpd
      go_wp2_with fail
      refine (HC.out _ (HH.out.below hb.out)).mono ?_
      rintro e w1 ⟨rfl, hb1⟩
      have hb2 := Lib.hid (hb.out.trans (hb1.mono hb.out.size))
      clear hb1 hb k2
      by_cases hq : q < 0
      · have hhm : h < m := by
          apply Classical.byContradiction
          intro hn
          have := HU.out (by omega)
          omega
        go_wp2_with fail
        go_roundw
        case rel => exact ⟨h + 1, j, by omega, by omega, by omega, by go_num, rfl, hb2⟩
        case measure => simp [intOf]; omega
      · have hhm : m ≤ h := by
          apply Classical.byContradiction
          intro hn
          exact hq (HL.out (by omega))
        go_wp2_with fail
        go_roundw
        case rel => exact ⟨i, h, by omega, by omega, by omega, rfl, rfl, hb2⟩
        case measure => simp [intOf]; omega
    · have him : i = m := by omega
      subst him
      by_cases hml : i < ds.length
      · have d1 : decide ((i : Int) < (ds.length : Int)) = true := by simpa using hml
        obtain ⟨b, off, rfl, hbl, hc⟩ := HR.out.at_ (HH.out.below hb.out) hml (by omega)
        have c0 : wr.cell? ⟨b, off + i * 4, none⟩ = some (f ds[i] 0) := hc 0 (by omega)
        have c1 : wr.cell? ⟨b, off + i * 4 + 1, none⟩ = some (f ds[i] 1) := hc 1 (by omega)
        have c2 : wr.cell? ⟨b, off + i * 4 + 2, none⟩ = some (f ds[i] 2) := hc 2 (by omega)
        have c3 : wr.cell? ⟨b, off + i * 4 + 3, none⟩ = some (f ds[i] 3) := hc 3 (by omega)
        have HC := Lib.hid (fun W hW => HP.out W ds[i] (List.getElem_mem hml) hW)
        have HV := Lib.hid (hasAt_lt (c := c) hml)
        clear hc
        generalize hpd : c ds[i] = q at HC HV
        generalize f ds[i] 0 = x0 at c0 HC
        generalize f ds[i] 1 = x1 at c1 HC
        generalize f ds[i] 2 = x2 at c2 HC
        generalize f ds[i] 3 = x3 at c3 HC
        clear hpd
        go_wp2_with fail
        refine (HC.out _ (HH.out.below hb.out)).mono ?_
        rintro e w1 ⟨rfl, hb1⟩
        have hb2 := Lib.hid (hb.out.trans (hb1.mono hb.out.size))
        clear hb1 hb
        go_wp2_with fail
        go_ret2
        exact ⟨by rw [HV.out]; simp, hb2.out⟩
      · have hf := Lib.hid (hasAt_ge (c := c) (show ds.length ≤ i by omega))
        go_wp2_with fail
        go_ret2
        exact ⟨by rw [hf.out]; simp, hb.out⟩
end
end Go.Proofs.YtbidhpgjmcedaaaGreatDoor

/- The value of a field by its name. -/
namespace Go.Proofs.YtbidhpgjmcedaaaGreatDoor
set_option linter.unusedVariables false
open Go.RowKit
set_option maxHeartbeats 400000 in
theorem fdName_any (d : FD) (name : ByteArray) (w : World) : Calls Tryz.prog 210 #[.agg #[fFd d 0, fFd d 1, fFd d 2, fFd d 3], .string name] w fun e w' => e = .returned (.int .i64 (cmpS d.name name)) ∧ Below w.heap.size w w' := by
  have hb := Lib.hid ((Below.refl w.heap.size w).alloc (Nat.le_refl _) (.cells #[.string d.name, .int .i64 d.v.kind, .string d.v.text, .int .i64 d.v.num] 78))
  rw [show fFd d 0 = .string d.name from rfl, show fFd d 1 = .int .i64 d.v.kind from rfl, show fFd d 2 = .string d.v.text from rfl, show fFd d 3 = .int .i64 d.v.num from rfl]
  go_enter Tryz.func210, Tryz.ntmps210
  go_wp2_with fail
  refine (cmpStr_any _ _ _).mono ?_
  rintro e w' ⟨rfl, rfl⟩
  generalize hc : cmpS d.name name = c
  have HC := Lib.hid hc
  clear hc
  go_wp2_with fail
  go_ret
  exact ⟨ret_int HC.out.symm, hb.out⟩
set_option maxHeartbeats 2000000 in
set_option maxRecDepth 100000 in
theorem field_any (H : Frz) (A : Option Addr) (cap : Nat) (fs : List FD) (name : ByteArray) (w : World) (hH : H.In w) (hR : Rw H A 4 fFd fs) (hs : FdSorted fs) (hl : fs.length ≤ 1000000) :
    Calls Tryz.prog 143 #[.slice A fs.length cap, .string name] w fun e w' => e = .returned (.tuple #[vO (findF fs name), .bool (findF fs name).isSome]) ∧ Below w.heap.size w w' := by
  obtain ⟨m, -, hm, hlo, hhi, hf⟩ := splitC_at (fun p : FD => cmpS p.name name) fs (fd_steps hs name)
  have hF := hf (fun p => p.name.toList == name.toList) (fun d => by rw [show (d.name.toList == name.toList) = eqS d.name name from rfl, eqS_iff]; exact ⟨fun e => by rw [e]; exact cmpS_self _, cmpS_zero⟩)
  have HF : Hid (findF fs name = (if hasAt (fun p : FD => cmpS p.name name) fs m = true then fs[m]? else none).map (·.v)) := by show _ = _; unfold findF; rw [hF]
  have HB := Lib.hid (fun W hW => bsf_Fd H fFd 210 (.string name) (fun p => cmpS p.name name) fs (fun W d _ _ => fdName_any d name W) (fun _ _ _ => by kernel_rfl) A cap W hW hR hl m hm hlo hhi)
  have HIN := Lib.hid (hH.alloc (.cells #[.int .i64 0, .string ⟨#[]⟩, .int .i64 0] 37))
  have HR := Lib.hid hR
  have hb0 := Lib.hid (new1 (w := w) (.cells #[.int .i64 0, .string ⟨#[]⟩, .int .i64 0] 37))
  clear hf hF hlo hhi hR hs hH
  go_enter Tryz.func143, Tryz.ntmps143
  go_wp2_with fail
  refine (HB.out _ HIN.out).mono ?_
  rintro e w1 ⟨rfl, hb⟩
  have hk := keep2 hb
  have x0 : w1.cell? ⟨w.heap.size, 0, none⟩ = some (.int .i64 0) := cell_h hk 0 rfl
  have x1 : w1.cell? ⟨w.heap.size, 1, none⟩ = some (.string ⟨#[]⟩) := cell_h hk 1 rfl
  have x2 : w1.cell? ⟨w.heap.size, 2, none⟩ = some (.int .i64 0) := cell_h hk 2 rfl
  have y0 := froz_h hk 0
  have y1 := froz_h hk 1
  have y2 := froz_h hk 2
  have hin1 := HIN.out.below hb
  have hb1 := Lib.hid (hb0.out.trans (hb.mono hb0.out.size))
  have hz1 : w.heap.size < w1.heap.size := lt_of_heap hk
  have HK9 := Lib.hid (fun a0 a1 a2 => set3 hk a0 a1 a2)
  clear hk hb
  generalize hgh : hasAt (fun p : FD => cmpS p.name name) fs m = hh at HF
  have HGH := Lib.hid hgh
  clear hgh
  cases hh with
  | true =>
    obtain ⟨hml, hme⟩ := hasC_some HGH.out
    obtain ⟨b, off, rfl, hbl, hc⟩ := HR.out.at_ hin1 hml (by omega)
    have c1 : w1.cell? ⟨b, off + m * 4 + 1, none⟩ = some (.int .i64 fs[m].v.kind) := hc 1 (by omega)
    have c2 : w1.cell? ⟨b, off + m * 4 + 1 + 1, none⟩ = some (.string fs[m].v.text) := hc 2 (by omega)
    have c3 : w1.cell? ⟨b, off + m * 4 + 1 + 2, none⟩ = some (.int .i64 fs[m].v.num) := hc 3 (by omega)
    have HV : Hid (findF fs name = some fs[m].v) := HF.out.trans (by simp [hme])
    have hb2 := Lib.hid (((hb1.out.setCell (p := ⟨w.heap.size, 0, none⟩) (Nat.le_refl _) (.int .i64 fs[m].v.kind)).setCell (p := ⟨w.heap.size, 1, none⟩) (Nat.le_refl _) (.string fs[m].v.text)).setCell (p := ⟨w.heap.size, 2, none⟩) (Nat.le_refl _) (.int .i64 fs[m].v.num))
    clear hc hme
    generalize fs[m].v = p at c1 c2 c3 HV hb2
    go_wp2_with fail
    have z0 := cell_h (HK9.out (.int .i64 p.kind) (.string p.text) (.int .i64 p.num)) 0 (v := .int .i64 p.kind) rfl
    have z1 := cell_h (HK9.out (.int .i64 p.kind) (.string p.text) (.int .i64 p.num)) 1 (v := .string p.text) rfl
    have z2 := cell_h (HK9.out (.int .i64 p.kind) (.string p.text) (.int .i64 p.num)) 2 (v := .int .i64 p.num) rfl
    refine bodyPost_ret (v := .tuple #[.agg #[.int .i64 p.kind, .string p.text, .int .i64 p.num], .bool true]) (by simp [results, Tryz.results143, go_sem, z0, z1, z2]) rfl ⟨by rw [HV.out]; rfl, hb2.out⟩
  | false =>
    have HV : Hid (findF fs name = none) := HF.out
    have hb2 := Lib.hid (((hb1.out.setCell (p := ⟨w.heap.size, 0, none⟩) (Nat.le_refl _) (.int .i64 0)).setCell (p := ⟨w.heap.size, 1, none⟩) (Nat.le_refl _) (.string ⟨#[]⟩)).setCell (p := ⟨w.heap.size, 2, none⟩) (Nat.le_refl _) (.int .i64 0))
    go_wp2_with fail
    have z0 := cell_h (HK9.out (.int .i64 0) (.string ⟨#[]⟩) (.int .i64 0)) 0 (v := .int .i64 0) rfl
    have z1 := cell_h (HK9.out (.int .i64 0) (.string ⟨#[]⟩) (.int .i64 0)) 1 (v := .string ⟨#[]⟩) rfl
    have z2 := cell_h (HK9.out (.int .i64 0) (.string ⟨#[]⟩) (.int .i64 0)) 2 (v := .int .i64 0) rfl
    refine bodyPost_ret (v := .tuple #[.agg #[.int .i64 0, .string ⟨#[]⟩, .int .i64 0], .bool false]) (by simp [results, Tryz.results143, go_sem, z0, z1, z2]) rfl ⟨by rw [HV.out]; rfl, hb2.out⟩
end Go.Proofs.YtbidhpgjmcedaaaGreatDoor

/- What is wrong with measures. -/
namespace Go.Proofs.YtbidhpgjmcedaaaGreatDoor
set_option linter.unusedVariables false
open Go.RowKit
set_option maxHeartbeats 4000000 in
set_option maxRecDepth 100000 in
theorem checkMeasures_any (H : Frz) (A : Option Addr) (cap : Nat) (ms : List MsD) (w : World) (hH : H.In w) (hR : Rw H A 4 fMs ms) (hl : ms.length ≤ 1000000) (hsz : ∀ m ∈ ms, m.name.size ≤ 1000000) :
    Calls Tryz.prog 13 #[.slice A ms.length cap] w fun e w' => e = .returned (.int .i64 (msE ms)) ∧ Below w.heap.size w w' := by
  have HR := Lib.hid hR
  have HH := Lib.hid hH
  have HS := Lib.hid hsz
  clear hR hH hsz
  by_cases hz : ms.length = 0
  · have h1 : ((ms.length : Int) == 0) = true := by simp [hz]
    have hv : Hid (msE ms = 3) := by show _ = _; unfold msE; rw [if_pos hz]
    clear hz
    go_enter Tryz.func13, Tryz.ntmps13
    go_wp2_with fail
    go_ret
    exact ⟨ret_int hv.out.symm, Below.refl _ _⟩
  have h1 : ((ms.length : Int) == 0) = false := by simp; exact fun c => hz (by simp [c])
  by_cases hlong : 20 < ms.length
  · have h2 : decide ((20 : Int) < ms.length) = true := by simp; omega
    have hv : Hid (msE ms = 2) := by show _ = _; unfold msE; rw [if_neg hz, if_pos hlong]
    clear hlong hz
    go_enter Tryz.func13, Tryz.ntmps13
    go_wp2_with fail
    go_ret
    exact ⟨ret_int hv.out.symm, Below.refl _ _⟩
  · have h2 : decide ((20 : Int) < ms.length) = false := by simp; omega
    have HV : Hid (msE ms = fstErr (ms1 ms) ms.length) := by show _ = _; unfold msE; rw [if_neg hz, if_neg hlong]
    clear hlong hz
    go_enter Tryz.func13, Tryz.ntmps13
    go_wp2_with fail
    clear h1 h2
    go_loopw [17] (fun t wr => ∃ i : Nat, i ≤ ms.length ∧ t = .int .i64 i ∧ Hid (fstErr (ms1 ms) i = 0) ∧ Hid (Below w.heap.size w wr)) (fun t _ => ms.length - (intOf t).toNat)
    case atStart => exact ⟨0, by omega, rfl, rfl, Below.refl _ _⟩
    case round =>
      obtain ⟨i, hi, rfl, h0, hb⟩ := hrel
      by_cases hlt : i < ms.length
      · have hin := HH.out.below hb.out
        obtain ⟨b, off, rfl, hbl, hc⟩ := HR.out.at_ hin hlt (by omega)
        have c0 : wr.cell? ⟨b, off + i * 4, none⟩ = some (.string ms[i].name) := hc 0 (by omega)
        have c1 : wr.cell? ⟨b, off + i * 4 + 1, none⟩ = some (.int .i64 ms[i].how) := hc 1 (by omega)
        have c2 : wr.cell? ⟨b, off + i * 4 + 2, none⟩ = some (.int .i64 ms[i].far) := hc 2 (by omega)
        have c3 : wr.cell? ⟨b, off + i * 4 + 3, none⟩ = some (.int .i64 ms[i].pts) := hc 3 (by omega)
        have HAT := Lib.hid (ms1_at hlt)
        have HBAD : Hid (∀ n, ms1 ms i = n → n ≠ 0 → msE ms = n) := fun n h1 h2 => HV.out.trans ((fstErr_bad hlt h0.out (by rw [h1]; exact h2)).trans h1)
        have HNX : Hid (ms1 ms i = 0 → fstErr (ms1 ms) (i + 1) = 0) := fun h1 => fstErr_next h0.out h1
        have hks := HS.out _ (List.getElem_mem hlt)
        clear hc
        generalize ms[i] = d at *
        have z0 : (wr.alloc (.cells #[.string d.name, .int .i64 d.how, .int .i64 d.far, .int .i64 d.pts] 119)).cell? ⟨wr.heap.size, 0, none⟩ = some (.string d.name) := newc 0 rfl
        have z1 : (wr.alloc (.cells #[.string d.name, .int .i64 d.how, .int .i64 d.far, .int .i64 d.pts] 119)).cell? ⟨wr.heap.size, 1, none⟩ = some (.int .i64 d.how) := newc 1 rfl
        have z2 : (wr.alloc (.cells #[.string d.name, .int .i64 d.how, .int .i64 d.far, .int .i64 d.pts] 119)).cell? ⟨wr.heap.size, 2, none⟩ = some (.int .i64 d.far) := newc 2 rfl
        have z3 : (wr.alloc (.cells #[.string d.name, .int .i64 d.how, .int .i64 d.far, .int .i64 d.pts] 119)).cell? ⟨wr.heap.size, 3, none⟩ = some (.int .i64 d.pts) := newc 3 rfl
        have HBN := Lib.hid (new1 (w := wr) (.cells #[.string d.name, .int .i64 d.how, .int .i64 d.far, .int .i64 d.pts] 119))
        go_upto_region 8 with (fail)
        clear c0 c1 c2 c3
        generalize wr.alloc (.cells #[.string d.name, .int .i64 d.how, .int .i64 d.far, .int .i64 d.pts] 119) = W1 at *
        have HB1 := Lib.hid (hb.out.trans (HBN.out.mono hb.out.size))
        clear hb h0 HBN hin
        have HAT2 : Hid (ms1 ms i = if isKey d.name = false then 5 else if ¬ (1 ≤ d.how ∧ d.how ≤ 3) then 4 else if ¬ (lowF d ≤ d.far ∧ d.far ≤ highF d) then 1 else if ¬ (-1000 ≤ d.pts ∧ d.pts ≤ 1000) then 1 else 0) := HAT.out
        clear HAT
        obtain ⟨q, hq⟩ : ∃ q, (d.how == 1) = q := ⟨_, rfl⟩
        have hcs : (q = true ∧ lowF d = 0 ∧ highF d = 0) ∨ (q = false ∧ lowF d = 1 ∧ highF d = 20) := by
          unfold lowF highF
          by_cases c : d.how = 1
          · exact Or.inl ⟨by rw [← hq]; simpa using c, if_pos c, if_pos c⟩
          · exact Or.inr ⟨by rw [← hq]; simpa using c, if_neg c, if_neg c⟩
        obtain ⟨lo, hlo⟩ : ∃ lo, lowF d = lo := ⟨_, rfl⟩
        obtain ⟨hg, hhg⟩ : ∃ hg, highF d = hg := ⟨_, rfl⟩
        rw [hlo, hhg] at HAT2 hcs
        clear hlo hhg
        go_upto_if 23 with (fail)
        clear hq
        go_cut [5, 6] (fun a b wx => a = .int .i64 lo ∧ b = .int .i64 hg ∧ wx = W1)
        case first =>
          rcases hcs with ⟨rfl, rfl, rfl⟩ | ⟨rfl, rfl, rfl⟩
          · go_wp2_with fail
            all_goals (go_meet; exact ⟨rfl, rfl, rfl⟩)
          · go_wp2_with fail
            all_goals (go_meet; exact ⟨rfl, rfl, rfl⟩)
        case rest =>
          obtain ⟨rfl, rfl, rfl⟩ := hcut
          clear hcs
          go_wp2_with fail
          refine (isKey_any d.name _ (by omega)).mono ?_
          rintro e w' ⟨rfl, rfl⟩
          generalize isKey d.name = k1 at HAT2
          cases k1 with
          | false =>
            have hv := Lib.hid (HBAD.out 5 (HAT2.out.trans (if_pos rfl)) (by omega))
            go_wp2_with fail
            go_ret
            exact ⟨ret_int hv.out.symm, HB1.out⟩
          | true =>
            have HA1 := Lib.hid (HAT2.out.trans (if_neg (by simp)))
            clear HAT2
            go_wp2_with fail
            refine (pwithin_any _ _ _ _).mono ?_
            rintro e w9 ⟨rfl, rfl⟩
            rw [within_dec]
            by_cases g2 : 1 ≤ d.how ∧ d.how ≤ 3
            rotate_left
            · have hv := Lib.hid (HBAD.out 4 (HA1.out.trans (if_pos g2)) (by omega))
              rw [decide_eq_false g2]
              clear g2
              go_wp2_with fail
              go_ret
              exact ⟨ret_int hv.out.symm, HB1.out⟩
            have HA2 := Lib.hid (HA1.out.trans (if_neg (fun c => c g2)))
            rw [decide_eq_true g2]
            clear g2 HA1
            go_wp2_with fail
            refine (pwithin_any _ _ _ _).mono ?_
            rintro e w9 ⟨rfl, rfl⟩
            rw [within_dec]
            by_cases g3 : lo ≤ d.far ∧ d.far ≤ hg
            rotate_left
            · have hv := Lib.hid (HBAD.out 1 (HA2.out.trans (if_pos g3)) (by omega))
              rw [decide_eq_false g3]
              clear g3
              go_wp2_with fail
              go_ret
              exact ⟨ret_int hv.out.symm, HB1.out⟩
            have HA3 := Lib.hid (HA2.out.trans (if_neg (fun c => c g3)))
            rw [decide_eq_true g3]
            clear g3 HA2
            go_wp2_with fail
            refine (pwithin_any _ _ _ _).mono ?_
            rintro e w9 ⟨rfl, rfl⟩
            rw [within_dec]
            by_cases g4 : -1000 ≤ d.pts ∧ d.pts ≤ 1000
            rotate_left
            · have hv := Lib.hid (HBAD.out 1 (HA3.out.trans (if_pos g4)) (by omega))
              rw [decide_eq_false g4]
              clear g4
              go_wp2_with fail
              go_ret
              exact ⟨ret_int hv.out.symm, HB1.out⟩
            have hok := Lib.hid (HNX.out (HA3.out.trans (if_neg (fun c => c g4))))
            rw [decide_eq_true g4]
            clear g4 HA3
            go_wp2_with fail
            go_roundw
            case rel => exact ⟨i + 1, by omega, by go_num, hok, HB1⟩
            case measure => simp [intOf]; omega
      · have hie : i = ms.length := by omega
        subst hie
        have hv := Lib.hid (HV.out.trans h0.out)
        go_wp2_with fail
        go_ret
        exact ⟨ret_int hv.out.symm, hb.out⟩
end Go.Proofs.YtbidhpgjmcedaaaGreatDoor

/- The points of two records; the distance of two texts. -/
namespace Go.Proofs.YtbidhpgjmcedaaaGreatDoor
set_option linter.unusedVariables false
open Go.RowKit
theorem vO_form (o : Option VD) : ∃ k t n, vO o = .agg #[.int .i64 k, .string t, .int .i64 n] ∧ ∀ v, o = some v → v = ⟨k, t, n⟩ := by
  cases o with
  | none => exact ⟨0, ⟨#[]⟩, 0, rfl, fun v h => by cases h⟩
  | some v => exact ⟨v.kind, v.text, v.num, rfl, fun u h => by injection h with h; rw [← h]⟩
theorem findF_mem {fs : List FD} {n : ByteArray} {v : VD} (h : findF fs n = some v) : ∃ f ∈ fs, f.v = v := by
  unfold findF at h
  cases e : fs.find? (fun f => f.name.toList == n.toList) with
  | none => rw [e] at h; cases h
  | some f => rw [e] at h; injection h with h; exact ⟨f, List.mem_of_find?_eq_some e, h⟩
/-- Right fields, small enough to be walked. -/
structure FsOk (H : Frz) (A : Option Addr) (fs : List FD) : Prop where
  row : Rw H A 4 fFd fs
  rise : FdSorted fs
  len : fs.length ≤ 30
  txt : ∀ f ∈ fs, f.v.text.size ≤ 200
set_option maxHeartbeats 4000000 in
set_option maxRecDepth 100000 in
theorem score_any (H : Frz) (hU : UtfIn H) (A A1 A2 : Option Addr) (cap c1 c2 : Nat) (ms : List MsD) (fa fb : List FD) (w : World) (hH : H.In w) (hR : Rw H A 4 fMs ms) (hm : ∀ m ∈ ms, RightM m) (hl : ms.length ≤ 20) (h1 : FsOk H A1 fa) (h2 : FsOk H A2 fb) :
    Calls Tryz.prog 75 #[.slice A ms.length cap, .slice A1 fa.length c1, .slice A2 fb.length c2] w fun e w' => e = .returned (.int .i64 (scoreL ptS ms fa fb)) ∧ Below w.heap.size w w' := by
  have HR := Lib.hid hR
  have HH := Lib.hid hH
  have HM := Lib.hid hm
  have HF1 := Lib.hid (fun n W (hW : H.In W) => field_any H A1 c1 fa n W hW h1.row h1.rise (by have := h1.len; omega))
  have HF2 := Lib.hid (fun n W (hW : H.In W) => field_any H A2 c2 fb n W hW h2.row h2.rise (by have := h2.len; omega))
  have HT1 : Hid (∀ n v, findF fa n = some v → v.text.size ≤ 1000000) := fun n v h => by obtain ⟨f, hf, rfl⟩ := findF_mem h; have := h1.txt f hf; omega
  have HT2 : Hid (∀ n v, findF fb n = some v → v.text.size ≤ 1000000) := fun n v h => by obtain ⟨f, hf, rfl⟩ := findF_mem h; have := h2.txt f hf; omega
  have HAL := Lib.hid (fun m a b W (hW : H.In W) h1 h2 h3 => alike_any H hU m a b W hW h1 h2 h3)
  clear hR hH hm h1 h2 hU
  go_enter Tryz.func75, Tryz.ntmps75
  go_wp2_with fail
  go_loopw [7, 16] (fun s t wr => ∃ i : Nat, i ≤ ms.length ∧ t = .int .i64 i ∧ s = .int .i64 (scoreL ptS (ms.take i) fa fb) ∧ Hid (Below w.heap.size w wr)) (fun _ t _ => ms.length - (intOf t).toNat)
  case atStart => exact ⟨0, by omega, rfl, rfl, Below.refl _ _⟩
  case round =>
    obtain ⟨i, hi, rfl, rfl, hb⟩ := hrel
    by_cases hlt : i < ms.length
    · have hin := HH.out.below hb.out
      obtain ⟨b, off, rfl, hbl, hc⟩ := HR.out.at_ hin hlt (by omega)
      have c0 : wr.cell? ⟨b, off + i * 4, none⟩ = some (.string ms[i].name) := hc 0 (by omega)
      have c1 : wr.cell? ⟨b, off + i * 4 + 1, none⟩ = some (.int .i64 ms[i].how) := hc 1 (by omega)
      have c2 : wr.cell? ⟨b, off + i * 4 + 2, none⟩ = some (.int .i64 ms[i].far) := hc 2 (by omega)
      have c3 : wr.cell? ⟨b, off + i * 4 + 3, none⟩ = some (.int .i64 ms[i].pts) := hc 3 (by omega)
      have HNX : Hid (scoreL ptS (ms.take (i + 1)) fa fb = scoreL ptS (ms.take i) fa fb + ptsOf ptS fa fb ms[i]) := by
        show _ = _
        rw [List.take_succ_eq_append_getElem hlt, score_snoc]
      have hbd := score_bound ptS fa fb (ms.take i) (fun m h => HM.out m (List.mem_of_mem_take h))
      rw [List.length_take] at hbd
      have hrm := HM.out _ (List.getElem_mem hlt)
      clear hc
      generalize ms[i] = d at *
      generalize scoreL ptS (ms.take i) fa fb = sm at *
      have z0 : (wr.alloc (.cells #[.string d.name, .int .i64 d.how, .int .i64 d.far, .int .i64 d.pts] 119)).cell? ⟨wr.heap.size, 0, none⟩ = some (.string d.name) := newc 0 rfl
      have z1 : (wr.alloc (.cells #[.string d.name, .int .i64 d.how, .int .i64 d.far, .int .i64 d.pts] 119)).cell? ⟨wr.heap.size, 1, none⟩ = some (.int .i64 d.how) := newc 1 rfl
      have z2 : (wr.alloc (.cells #[.string d.name, .int .i64 d.how, .int .i64 d.far, .int .i64 d.pts] 119)).cell? ⟨wr.heap.size, 2, none⟩ = some (.int .i64 d.far) := newc 2 rfl
      have z3 : (wr.alloc (.cells #[.string d.name, .int .i64 d.how, .int .i64 d.far, .int .i64 d.pts] 119)).cell? ⟨wr.heap.size, 3, none⟩ = some (.int .i64 d.pts) := newc 3 rfl
      have HBN := Lib.hid (new1 (w := wr) (.cells #[.string d.name, .int .i64 d.how, .int .i64 d.far, .int .i64 d.pts] 119))
      go_upto_region 5 with (fail)
      clear c0 c1 c2 c3
      generalize wr.alloc (.cells #[.string d.name, .int .i64 d.how, .int .i64 d.far, .int .i64 d.pts] 119) = W1 at *
      have HB1 := Lib.hid (hb.out.trans (HBN.out.mono hb.out.size))
      have HIN1 := Lib.hid (hin.below HBN.out)
      clear hb HBN hin
      generalize wr.heap.size = mb at *
      go_wp2_with fail
      refine (HF1.out d.name W1 HIN1.out).mono ?_
      rintro e W2 ⟨rfl, hb2⟩
      obtain ⟨k1, t1, n1, e1, g1⟩ := vO_form (findF fa d.name)
      obtain ⟨q1, hq1⟩ : ∃ q, (findF fa d.name).isSome = q := ⟨_, rfl⟩
      rw [e1, hq1]
      have HG1 := Lib.hid g1
      have HQ1 := Lib.hid hq1
      clear e1 g1 hq1
      have HNW := Lib.hid (hb2.trans ((new1 (w := W2) (.cells #[.int .i64 k1, .string t1, .int .i64 n1] 37)).mono hb2.size))
      have HB3 := Lib.hid (HB1.out.trans (HNW.out.mono HB1.out.size))
      have HIN3 := Lib.hid (HIN1.out.below HNW.out)
      have y0 := lift_cell z0 _ HNW.out
      have y1 := lift_cell z1 _ HNW.out
      have y2 := lift_cell z2 _ HNW.out
      have y3 := lift_cell z3 _ HNW.out
      have v0 : (W2.alloc (.cells #[.int .i64 k1, .string t1, .int .i64 n1] 37)).cell? ⟨W2.heap.size, 0, none⟩ = some (.int .i64 k1) := newc 0 rfl
      have v1 : (W2.alloc (.cells #[.int .i64 k1, .string t1, .int .i64 n1] 37)).cell? ⟨W2.heap.size, 1, none⟩ = some (.string t1) := newc 1 rfl
      have v2 : (W2.alloc (.cells #[.int .i64 k1, .string t1, .int .i64 n1] 37)).cell? ⟨W2.heap.size, 2, none⟩ = some (.int .i64 n1) := newc 2 rfl
      clear z0 z1 z2 z3 HB1 HIN1 HNW hb2
      go_upto_region 6 with (fail)
      generalize W2.alloc (.cells #[.int .i64 k1, .string t1, .int .i64 n1] 37) = W3 at *
      generalize W2.heap.size = vb at *
      go_wp2_with fail
      refine (HF2.out d.name W3 HIN3.out).mono ?_
      rintro e W4 ⟨rfl, hb4⟩
      obtain ⟨k2, t2, n2, e2, g2⟩ := vO_form (findF fb d.name)
      obtain ⟨q2, hq2⟩ : ∃ q, (findF fb d.name).isSome = q := ⟨_, rfl⟩
      rw [e2, hq2]
      have HG2 := Lib.hid g2
      have HQ2 := Lib.hid hq2
      clear e2 g2 hq2
      have HNW := Lib.hid (hb4.trans ((new1 (w := W4) (.cells #[.int .i64 k2, .string t2, .int .i64 n2] 37)).mono hb4.size))
      have HB5 := Lib.hid (HB3.out.trans (HNW.out.mono HB3.out.size))
      have HIN5 := Lib.hid (HIN3.out.below HNW.out)
      have x0 := lift_cell y0 _ HNW.out
      have x1 := lift_cell y1 _ HNW.out
      have x2 := lift_cell y2 _ HNW.out
      have x3 := lift_cell y3 _ HNW.out
      have u0 := lift_cell v0 _ HNW.out
      have u1 := lift_cell v1 _ HNW.out
      have u2 := lift_cell v2 _ HNW.out
      have w0 : (W4.alloc (.cells #[.int .i64 k2, .string t2, .int .i64 n2] 37)).cell? ⟨W4.heap.size, 0, none⟩ = some (.int .i64 k2) := newc 0 rfl
      have w1 : (W4.alloc (.cells #[.int .i64 k2, .string t2, .int .i64 n2] 37)).cell? ⟨W4.heap.size, 1, none⟩ = some (.string t2) := newc 1 rfl
      have w2 : (W4.alloc (.cells #[.int .i64 k2, .string t2, .int .i64 n2] 37)).cell? ⟨W4.heap.size, 2, none⟩ = some (.int .i64 n2) := newc 2 rfl
      clear y0 y1 y2 y3 v0 v1 v2 HB3 HIN3 HNW hb4
      go_upto_region 7 with (fail)
      generalize W4.alloc (.cells #[.int .i64 k2, .string t2, .int .i64 n2] 37) = W5 at *
      generalize W4.heap.size = ub at *
      have HNO : Hid (ptsOf ptS fa fb d = 0 → scoreL ptS (ms.take (i + 1)) fa fb = sm) := fun h => by rw [HNX.out, h]; omega
      cases q1 with
      | false =>
        have hp : ptsOf ptS fa fb d = 0 := by
          have := HQ1.out
          unfold ptsOf
          cases hf : findF fa d.name with
          | none => rfl
          | some v => rw [hf] at this; cases this
        have HS := Lib.hid (HNO.out hp)
        clear hp HNO
        go_wp2_with fail
        go_roundw
        case rel => exact ⟨i + 1, by omega, by go_num, by rw [HS.out], HB5⟩
        case measure => simp [intOf]; omega
      | true =>
        cases q2 with
        | false =>
          have hp : ptsOf ptS fa fb d = 0 := by
            have := HQ2.out
            unfold ptsOf
            cases hf : findF fb d.name with
            | none => cases findF fa d.name <;> rfl
            | some v => rw [hf] at this; cases this
          have HS := Lib.hid (HNO.out hp)
          clear hp HNO
          go_wp2_with fail
          go_roundw
          case rel => exact ⟨i + 1, by omega, by go_num, by rw [HS.out], HB5⟩
          case measure => simp [intOf]; omega
        | true =>
          have hs1 : findF fa d.name = some ⟨k1, t1, n1⟩ := by
            have := HQ1.out
            cases hf : findF fa d.name with
            | none => rw [hf] at this; cases this
            | some v => rw [HG1.out v hf]
          have hs2 : findF fb d.name = some ⟨k2, t2, n2⟩ := by
            have := HQ2.out
            cases hf : findF fb d.name with
            | none => rw [hf] at this; cases this
            | some v => rw [HG2.out v hf]
          have hp : Hid (ptsOf ptS fa fb d = if alikeV ptS d ⟨k1, t1, n1⟩ ⟨k2, t2, n2⟩ = true then d.pts else 0) := by
            show _ = _
            unfold ptsOf
            rw [hs1, hs2]
          have hz1 := HT1.out _ _ hs1
          have hz2 := HT2.out _ _ hs2
          have HC := Lib.hid (HAL.out d ⟨k1, t1, n1⟩ ⟨k2, t2, n2⟩ W5 HIN5.out hrm.far20 hz1 hz2)
          have hpt := hrm.pts
          clear hs1 hs2 hz1 hz2
          generalize alikeV ptS d ⟨k1, t1, n1⟩ ⟨k2, t2, n2⟩ = al at *
          go_wp2_with fail
          refine HC.out.mono ?_
          rintro e W6 ⟨rfl, hb6⟩
          have HB6 := Lib.hid (HB5.out.trans (hb6.mono HB5.out.size))
          have p3 := lift_cell x3 _ hb6
          clear hb6
          cases al with
          | false =>
            have HS := Lib.hid (HNO.out (hp.out.trans (if_neg (by simp))))
            go_wp2_with fail
            go_roundw
            case rel => exact ⟨i + 1, by omega, by go_num, by rw [HS.out], HB6⟩
            case measure => simp [intOf]; omega
          | true =>
            have HS : Hid (scoreL ptS (ms.take (i + 1)) fa fb = sm + d.pts) := HNX.out.trans (by rw [hp.out, if_pos rfl])
            have w9 : IntKind.i64.wrap (sm + d.pts) = sm + d.pts := IntWalk.i64_in _ (by omega)
            go_wp2_with fail
            go_roundw
            case rel => exact ⟨i + 1, by omega, by go_num, by rw [HS.out], HB6⟩
            case measure => simp [intOf]; omega
    · have hie : i = ms.length := by omega
      subst hie
      have HV : Hid (scoreL ptS (ms.take ms.length) fa fb = scoreL ptS ms fa fb) := by show _ = _; rw [List.take_length]
      go_wp2_with fail
      go_ret
      exact ⟨ret_int HV.out, hb.out⟩
end Go.Proofs.YtbidhpgjmcedaaaGreatDoor
