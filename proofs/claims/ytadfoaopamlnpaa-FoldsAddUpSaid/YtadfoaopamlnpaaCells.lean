/- Cells of measures: what is wrong with them. -/
import Derived.Test.YtadfoaopamlnpaaStrs
import Derived.Test.YtadfoaopamlnpaaIdxStr
import Derived.Test.YtadfoaopamlnpaaExact
namespace Go.Proofs.Ytadfoaopamlnpaa
set_option linter.unusedVariables false
open Go.RowKit

structure CellD where
  kv : Value
  keys : List ByteArray
  many : Int
  cents : Int
def fC (d : CellD) : Nat → Value
  | 0 => d.kv
  | 1 => .int .i64 d.many
  | _ => .int .i64 d.cents
/-- The cells' keys lie in H. -/
def CellsR (H : Frz) (ds : List CellD) : Prop := ∀ d ∈ ds, Ss H d.kv d.keys
def fullI (many cents : Int) : Bool := (decide (0 ≤ many) && decide (many ≤ 1000000)) && (decide (-1000000000000 ≤ cents) && decide (cents ≤ 1000000000000))
def fullB (d : CellD) : Bool := fullI d.many d.cents
theorem fullB_yes {d : CellD} (h : fullB d = true) : 0 ≤ d.many ∧ d.many ≤ 1000000 ∧ -1000000000000 ≤ d.cents ∧ d.cents ≤ 1000000000000 := by
  simp [fullB, fullI] at h; omega

set_option maxHeartbeats 1000000 in
theorem full_any (kv : Value) (many cents : Int) (w : World) :
    Calls Try.prog 66 #[.agg #[kv, .int .i64 many, .int .i64 cents]] w fun e w' => e = .returned (.bool (fullI many cents)) ∧ Below w.heap.size w w' := by
  have hv : Hid (fullI many cents = ((decide (0 ≤ many) && decide (many ≤ 1000000)) && (decide (-1000000000000 ≤ cents) && decide (cents ≤ 1000000000000)))) := rfl
  generalize fullI many cents = r at hv
  go_enter Try.func66, Try.ntmps66
  go_wp2_with fail
  refine (within_any _ _ _ _).mono ?_
  rintro e w' ⟨rfl, rfl⟩
  generalize (decide (0 ≤ many) && decide (many ≤ 1000000)) = q at hv
  cases q with
  | false =>
    go_wp2_with fail
    go_ret
    exact ⟨ret_bool' (hv.out.trans (Bool.false_and _)).symm, (Below.refl _ _).alloc (Nat.le_refl _) _⟩
  | true =>
    go_wp2_with fail
    refine (within_any _ _ _ _).mono ?_
    rintro e w' ⟨rfl, rfl⟩
    generalize (decide (-1000000000000 ≤ cents) && decide (cents ≤ 1000000000000)) = q at hv
    go_wp2_with fail
    go_ret
    exact ⟨ret_bool' (hv.out.trans (Bool.true_and _)).symm, (Below.refl _ _).alloc (Nat.le_refl _) _⟩

theorem noKey_any (s : ByteArray) (w : World) (hs : s.size ≤ 1000000) :
    Calls Try.prog 88 #[.string s] w fun e w' => e = .returned (.bool (!isKey s)) ∧ Below w.heap.size w w' := by
  have hv : Hid ((!isKey s) = !isKey s) := rfl
  generalize hr : (!isKey s) = r
  have HR := Lib.hid hr
  clear hr hv
  go_enter Try.func88, Try.ntmps88
  go_wp2_with fail
  refine (isKey_any s _ (by omega)).mono ?_
  rintro e w' ⟨rfl, rfl⟩
  generalize isKey s = q at HR
  go_wp2_with fail
  go_ret
  exact ⟨ret_bool' HR.out, Below.refl _ _⟩

theorem Frz.In.put {H : Frz} {w : World} (h : H.In w) (o : Obj) : ∃ H', H.Le H' ∧ H' w.heap.size = some o ∧ H'.In (w.alloc o) :=
  ⟨H.add w.heap.size o, Frz.le_add (h.none_ (Nat.le_refl _)), Frz.add_at _ _ _, (h.alloc o).add (heap_at rfl)⟩
theorem frz3 {H : Frz} {w : World} (h : H.In w) {g : Nat} {x y z : Value} {T : TypeId} (e : H g = some (.cells #[x, y, z] T (0, 0))) :
    w.cell? ⟨g, 0, none⟩ = some x ∧ w.cell? ⟨g, 1, none⟩ = some y ∧ w.cell? ⟨g, 2, none⟩ = some z := by
  have := h _ _ e
  simp [World.cell?, this]
/-- What is right with the i-th of cells. -/
def cellAt (ds : List CellD) (i : Nat) : Prop := ∀ (h : i < ds.length), ds[i].keys.length = (ds[0]'(by omega)).keys.length ∧ ds[i].keys.length ≤ 6 ∧ anyF (fun s => !isKey s) ds[i].keys = false ∧
  (∀ h0 : 0 < i, 0 < cmpL ds[i].keys (ds[i - 1]'(by omega)).keys) ∧ fullB ds[i] = true
def CellsOK (ds : List CellD) : Prop := ds.length ≤ 2000 ∧ ∀ i, cellAt ds i
theorem step_ok {ds : List CellD} {i : Nat} (h : ∀ j, j < i → cellAt ds j) (hi : cellAt ds i) : ∀ j, j < i + 1 → cellAt ds j := fun j hj => by
  by_cases e : j = i
  · rw [e]; exact hi
  · exact h j (by omega)
/-- What CheckCells answers. -/
def CCPost (ds : List CellD) (w : World) (e : Ending) (w' : World) : Prop := ∃ n : Int, e = .returned (.int .i64 n) ∧ (n = 0 ↔ CellsOK ds) ∧ Below w.heap.size w w'
theorem CCPost.bad {ds : List CellD} {w w' : World} {n : Int} (hn : n ≠ 0) (h : ¬ CellsOK ds) (hb : Below w.heap.size w w') : CCPost ds w (.returned (.int .i64 n)) w' := ⟨n, rfl, ⟨fun e => absurd e hn, fun e => absurd e h⟩, hb⟩

set_option maxHeartbeats 4000000 in
set_option maxRecDepth 100000 in
theorem checkCells_any (H : Frz) (A : Option Addr) (cap : Nat) (ds : List CellD) (w : World) (hH : H.In w) (hR : Rw H A 3 fC ds) (hS : CellsR H ds) (hl : ds.length ≤ 1000000) :
    Calls Try.prog 59 #[.slice A ds.length cap] w (CCPost ds w) := by
  have HR := Lib.hid hR
  have HH := Lib.hid hH
  have HS := Lib.hid hS
  clear hR hH hS
  by_cases hbig : 2000 < ds.length
  · go_enter Try.func59, Try.ntmps59
    go_wp2_with fail
    go_ret
    exact CCPost.bad (by omega) (fun h => by have := h.1; omega) (Below.refl _ _)
  · go_enter Try.func59, Try.ntmps59
    go_wp2_with fail
    go_loopw [10] (fun t wr => ∃ i : Nat, i ≤ ds.length ∧ t = .int .i64 i ∧ Hid (∀ j, j < i → cellAt ds j) ∧ Hid (Below w.heap.size w wr)) (fun t _ => ds.length - (intOf t).toNat)
    case atStart => exact ⟨0, by omega, rfl, fun j hj => absurd hj (by omega), Below.refl _ _⟩
    case round =>
      obtain ⟨i, hi, rfl, hok, hb⟩ := hrel
      by_cases hlt : i < ds.length
      · have hin := HH.out.below hb.out
        obtain ⟨b, off, rfl, hbl, hc⟩ := HR.out.at_ hin hlt (by omega)
        have c0 : wr.cell? ⟨b, off + i * 3, none⟩ = some (ds[i].kv) := hc 0 (by omega)
        have c1 : wr.cell? ⟨b, off + i * 3 + 1, none⟩ = some (.int .i64 ds[i].many) := hc 1 (by omega)
        have c2 : wr.cell? ⟨b, off + i * 3 + 2, none⟩ = some (.int .i64 ds[i].cents) := hc 2 (by omega)
        obtain ⟨b', off', hbe, _, hc0⟩ := HR.out.at_ hin (show 0 < ds.length by omega) (by omega)
        obtain ⟨rfl, rfl⟩ : b = b' ∧ off = off' := by injection hbe with e; injection e with e1 e2; exact ⟨e1, e2⟩
        have k0 : wr.cell? ⟨b, off, none⟩ = some ((ds[0]'(by omega)).kv) := by simpa [fC] using hc0 0 (by omega)
        have hsi := HS.out _ (List.getElem_mem hlt)
        have hs0 := HS.out _ (List.getElem_mem (show 0 < ds.length by omega))
        have hpos : (0 : Int) < ds.length := by omega
        have hbad : Hid (¬ cellAt ds i → ¬ CellsOK ds) := fun h e => h (e.2 i)
        have hat : Hid (ds[i].keys.length = (ds[0]'(by omega)).keys.length → ds[i].keys.length ≤ 6 → anyF (fun s => !isKey s) ds[i].keys = false →
          (∀ h0 : 0 < i, 0 < cmpL ds[i].keys (ds[i - 1]'(by omega)).keys) → fullB ds[i] = true → cellAt ds i) := fun h1 h2 h3 h4 h5 h => ⟨h1, h2, h3, h4, h5⟩
        have hno : Hid (cellAt ds i → ds[i].keys.length = (ds[0]'(by omega)).keys.length ∧ ds[i].keys.length ≤ 6 ∧ anyF (fun s => !isKey s) ds[i].keys = false ∧
          (∀ h0 : 0 < i, 0 < cmpL ds[i].keys (ds[i - 1]'(by omega)).keys) ∧ fullB ds[i] = true) := fun h => h hlt
        clear hc hc0 hbe
        generalize hd : ds[i] = d at c0 c1 c2 hsi hat hno
        generalize hd0 : ds[0]'(by omega) = d0 at k0 hs0 hat hno
        have HD := Lib.hid hd
        clear hd hd0
        obtain ⟨Ai, capi, hkv, hlei, hRi, hszi, hli⟩ := hsi
        obtain ⟨A0, cap0, hkv0, hle0, hR0, hsz0, hl0⟩ := hs0
        have HSI := Lib.hid (show Ss H d.kv d.keys from ⟨Ai, capi, hkv, hlei, hRi, hszi, hli⟩)
        rw [hkv] at c0
        rw [hkv0] at k0
        have HRI := Lib.hid hRi
        have HSZ := Lib.hid hszi
        have HKV := Lib.hid hkv
        have HIN := Lib.hid hin
        clear hR0 hsz0 hRi hszi hkv hkv0 hin
        by_cases hln : d.keys.length = d0.keys.length
        · have g1 : ((d.keys.length : Int) != (d0.keys.length : Int)) = false := by simp [hln]
          have HLN := Lib.hid hln
          clear hln
          by_cases h6 : 6 < d.keys.length
          · have g2 : decide ((6 : Int) < (d.keys.length : Int)) = true := by simp; omega
            have hv := Lib.hid (hbad.out (fun h => by have := (hno.out h).2.1; omega))
            go_wp2_with fail
            go_quiet (fail)
            go_wp2_with fail
            go_ret
            exact CCPost.bad (by omega) hv.out (below_drewN (hb.out.alloc hb.out.size _) _)
          · have g2 : decide ((6 : Int) < (d.keys.length : Int)) = false := by simp; omega
            go_wp2_with fail
            go_quiet (fail)
            go_wp2_with fail
            obtain ⟨H2, hl2, hbx, hin2⟩ := HIN.out.put (.cells #[.slice Ai d.keys.length capi, .int .i64 d.many, .int .i64 d.cents] 54)
            have hb2 := Lib.hid (below_drewN (hb.out.alloc hb.out.size (.cells #[.slice Ai d.keys.length capi, .int .i64 d.many, .int .i64 d.cents] 54)) nq)
            have hin3 := Lib.hid (hin2.drewN nq)
            generalize World.drewN _ _ = W1 at hb2 hin3
            have HL2 := Lib.hid hl2
            have HBX := Lib.hid hbx
            clear hl2 hbx hin2 c0 c1 c2 k0 g1 g2
            refine (containsFunc_Str H fS 88 [] (fun s => !isKey s) d.keys (fun W s hs hW => noKey_any s W (HSZ.out s hs)) (fun _ _ => by kernel_rfl) Ai capi W1 (hin3.out.le HL2.out) HRI.out hli).mono ?_
            rintro e W2 ⟨rfl, hbW2⟩
            have HIN4 := Lib.hid (hin3.out.below hbW2)
            have HB4 := Lib.hid (hb2.out.trans (hbW2.mono hb2.out.size))
            obtain ⟨x0, x1, x2⟩ := frz3 HIN4.out HBX.out
            clear hbW2 hin3 hb2
            generalize hany : anyF (fun s => !isKey s) d.keys = q
            have HANY := Lib.hid hany
            clear hany
            cases q with
            | true =>
              have hv := Lib.hid (hbad.out (fun h => by have := (hno.out h).2.2.1; rw [HANY.out] at this; cases this))
              go_wp2_with fail
              go_ret
              exact CCPost.bad (by omega) hv.out HB4.out
            | false =>
              by_cases hi0 : 0 < i
              · obtain ⟨b', off', hbe, hbl', hc'⟩ := HR.out.at_ (HIN4.out.le HL2.out) (show i - 1 < ds.length by omega) (by omega)
                obtain ⟨rfl, rfl⟩ : b = b' ∧ off = off' := by injection hbe with e; injection e with e1 e2; exact ⟨e1, e2⟩
                have p0 : W2.cell? ⟨b, off + (i - 1) * 3, none⟩ = some ((ds[i - 1]'(by omega)).kv) := hc' 0 (by omega)
                have hsp := HS.out _ (List.getElem_mem (show i - 1 < ds.length by omega))
                have hno2 : Hid (cellAt ds i → 0 < cmpL d.keys (ds[i - 1]'(by omega)).keys) := fun h => (hno.out h).2.2.2.1 hi0
                have hat2 : Hid (0 < cmpL d.keys (ds[i - 1]'(by omega)).keys → fullB d = true → cellAt ds i) := fun h4 h5 => hat.out HLN.out (by omega) HANY.out (fun _ => h4) h5
                generalize ds[i - 1]'(by omega) = dp at p0 hsp hat2 hno2
                have HSP := Lib.hid hsp
                obtain ⟨Ap, capp, hkvp, hlep, hRp, hszp, hlp⟩ := hsp
                rw [hkvp] at p0
                have HKVP := Lib.hid hkvp
                have hcmp : ∀ W, H.In W → Calls Try.prog 62 #[.slice Ai d.keys.length capi, .slice Ap dp.keys.length capp] W fun e w' => e = .returned (.int .i64 (cmpL d.keys dp.keys)) ∧ ∃ n, w' = W.drewN n := by
                  intro W hW
                  have := compareSs_any H d.kv dp.kv d.keys dp.keys W hW HSI.out HSP.out
                  rw [HKV.out, HKVP.out] at this
                  exact this.mono fun e w' ⟨he, hw⟩ => ⟨he, 0, hw.symm⟩
                have HCMP := Lib.hid hcmp
                have e1 : ((i : Int) - 1).toNat = i - 1 := by omega
                have e2 : IntKind.i64.wrap ((i : Int) - 1) = (i : Int) - 1 := IntWalk.i64_in _ (by omega)
                have e3 : (0 : Int) ≤ (i : Int) - 1 := by omega
                have e4 : (i : Int) - 1 < ds.length := by omega
                have e5 : (0 : Int) < (i : Int) := by omega
                have e6 : (1 : Int) ≤ (i : Int) := by omega
                have e7 : (i : Int) ≤ ds.length := by omega
                have e8 : decide ((0 : Int) < (i : Int)) = true := by simp; omega
                clear hc' hbe hRp hszp hkvp hcmp
                generalize hz : cmpL d.keys dp.keys = z at HCMP hat2 hno2
                have HZ := Lib.hid hz
                clear hz
                by_cases hle : z ≤ 0
                · have hle' : decide (z ≤ 0) = true := by simpa using hle
                  have hv := Lib.hid (hbad.out (fun h => by have := hno2.out h; omega))
                  go_wp2_with fail
                  go_quiet ((go_at_call 62; exact Calls.quiet_of (HCMP.out _ (HIN4.out.le HL2.out))))
                  go_wp2_with fail
                  go_ret
                  exact CCPost.bad (by omega) hv.out (below_drewN HB4.out _)
                · have hle' : decide (z ≤ 0) = false := by simpa using hle
                  go_wp2_with fail
                  go_quiet ((go_at_call 62; exact Calls.quiet_of (HCMP.out _ (HIN4.out.le HL2.out))))
                  go_wp2_with fail
                  have HB5 := Lib.hid (below_drewN HB4.out nq)
                  have hat3 := Lib.hid (hat2.out (by omega))
                  clear hat hat2 hno2 HCMP HZ HSP HKVP p0 hle hle'
                  generalize World.drewN W2 nq = W3 at HB5
                  refine (full_any _ d.many d.cents W3).mono ?_
                  rintro e W4 ⟨rfl, hbW4⟩
                  have HB6 := Lib.hid (HB5.out.trans (hbW4.mono HB5.out.size))
                  clear hbW4
                  generalize hfu : fullI d.many d.cents = q
                  have HFU := Lib.hid hfu
                  clear hfu
                  cases q with
                  | false =>
                    have hv := Lib.hid (hbad.out (fun h => by have := (hno.out h).2.2.2.2; unfold fullB at this; rw [HFU.out] at this; cases this))
                    go_wp2_with fail
                    go_ret
                    exact CCPost.bad (by omega) hv.out HB6.out
                  | true =>
                    have hv := Lib.hid (hat3.out HFU.out)
                    go_wp2_with fail
                    go_roundw
                    case rel => exact ⟨i + 1, by omega, by go_num, step_ok hok.out hv.out, HB6⟩
                    case measure => simp [intOf]; omega
              · have e8 : decide ((0 : Int) < (i : Int)) = false := by simp; omega
                go_wp2_with fail
                go_quiet (fail)
                go_wp2_with fail
                have HB5 := Lib.hid (below_drewN HB4.out nq)
                have hat3 := Lib.hid (hat.out HLN.out (by omega) HANY.out (fun h => absurd h hi0))
                clear hat
                generalize World.drewN W2 nq = W3 at HB5
                refine (full_any _ d.many d.cents W3).mono ?_
                rintro e W4 ⟨rfl, hbW4⟩
                have HB6 := Lib.hid (HB5.out.trans (hbW4.mono HB5.out.size))
                clear hbW4
                generalize hfu : fullI d.many d.cents = q
                have HFU := Lib.hid hfu
                clear hfu
                cases q with
                | false =>
                  have hv := Lib.hid (hbad.out (fun h => by have := (hno.out h).2.2.2.2; unfold fullB at this; rw [HFU.out] at this; cases this))
                  go_wp2_with fail
                  go_ret
                  exact CCPost.bad (by omega) hv.out HB6.out
                | true =>
                  have hv := Lib.hid (hat3.out HFU.out)
                  go_wp2_with fail
                  go_roundw
                  case rel => exact ⟨i + 1, by omega, by go_num, step_ok hok.out hv.out, HB6⟩
                  case measure => simp [intOf]; omega
        · have g1 : ((d.keys.length : Int) != (d0.keys.length : Int)) = true := by simp; omega
          have hv := Lib.hid (hbad.out (fun h => hln (hno.out h).1))
          clear hln
          go_wp2_with fail
          go_quiet (fail)
          go_wp2_with fail
          go_ret
          exact CCPost.bad (by omega) hv.out (below_drewN (hb.out.alloc hb.out.size _) _)
      · go_wp2_with fail
        go_ret
        refine ⟨0, rfl, ⟨fun _ => ⟨by omega, fun j => ?_⟩, fun _ => rfl⟩, hb.out⟩
        by_cases hj : j < i
        · exact hok.out j hj
        · exact fun h => absurd h (by omega)
end Go.Proofs.Ytadfoaopamlnpaa
