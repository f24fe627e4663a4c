/- Two touches are of one person just if there is a chain, and each link of it is a shared id that joins: the law. -/
import Derived.Test.YtbidhpgjmcedaaaGreatDoorGBR
import Derived.Test.YtbidhpgjmcedaaaGreatDoorGBU
import Derived.Test.YtbidhpgjmcedaaaGreatDoorGBV
import Derived.Test.YtbidhpgjmcedaaaGreatDoorGBP
namespace Go.Proofs.YtbidhpgjmcedaaaGreatDoor
set_option linter.unusedVariables false
open Go.RowKit
theorem newH_mono {n m : Nat} {w w' : World} (h : m ≤ n) (hb : Below w.heap.size w w') : (newH n w).Le (newH m w') := fun b o e => by
  unfold newH at e ⊢
  by_cases g : b < n
  · rw [if_pos g] at e; cases e
  · rw [if_neg g] at e
    rw [if_neg (by omega)]
    exact (hb.block b (lt_of_heap e)).trans e
/-- Memory above a mark is laid for good. -/
theorem Lw.fix {w W W' : World} {bs K : Nat} {H : Frz} (h : Lw w bs K H W) (hb : Below W.heap.size W W') : Lw w bs K (H.all W' W.heap.size) W' ∧ H.Le (H.all W' W.heap.size) := by
  have h2 := h.call hb
  refine ⟨⟨h2.st, h2.bel, h2.le, Frz.In.all h2.fin _, ?_⟩, Frz.le_all h.fin (Nat.le_refl _)⟩
  rw [Frz.all_lt h.lt]
  exact h.apart
theorem Lw.less {w W : World} {bs K : Nat} {H H' : Frz} (h : Lw w bs K H' W) (hl : H.Le H') : Lw w bs K H W :=
  ⟨h.st, h.bel, h.le, h.fin.le hl, by
    cases e : H bs with
    | none => rfl
    | some o => have := hl bs o e; rw [h.apart] at this; cases this⟩
/-- What the two draws of numbers leave. -/
def φTie (bs b off cap : Nat) (ts : List TchD) (i : Nat) (v : Value) (_ : World) : Prop :=
  match i with
  | 0 => v = .slice (some ⟨b, off, none⟩) ts.length cap
  | 1 => v = .pointer (some ⟨bs, 0, none⟩)
  | 2 => v = .slice (some ⟨b, off, none⟩) ts.length cap
  | 3 => v = .int .i64 ts.length
  | 4 => ∃ k : Nat, k < ts.length ∧ v = .int .i64 k
  | 5 => ∃ k : Nat, k < ts.length ∧ v = .pointer (some ⟨b, off + k * 5, none⟩)
  | 6 => ∃ k : Nat, k < ts.length ∧ v = .pointer (some ⟨b, off + k * 5, none⟩)
  | 7 => ∃ (k : Nat) (h : k < ts.length), v = .int .i64 ts[k].no
  | 8 => v = .slice (some ⟨b, off, none⟩) ts.length cap
  | 9 => v = .pointer (some ⟨bs, 0, none⟩)
  | 10 => v = .slice (some ⟨b, off, none⟩) ts.length cap
  | 11 => v = .int .i64 ts.length
  | 12 => ∃ k : Nat, k < ts.length ∧ v = .int .i64 k
  | 13 => ∃ k : Nat, k < ts.length ∧ v = .pointer (some ⟨b, off + k * 5, none⟩)
  | 14 => ∃ k : Nat, k < ts.length ∧ v = .pointer (some ⟨b, off + k * 5, none⟩)
  | _ => ∃ (k : Nat) (h : k < ts.length), v = .int .i64 ts[k].no
set_option maxHeartbeats 8000000 in
set_option maxRecDepth 100000 in
theorem chainsTie_walk (a0 : Option Addr) (len0 cap0 : Nat) (z0 : List Int) (w : World) (w0 : IsRow .i64 w a0 len0 cap0 z0) (hG : GlobP w) :
    Calls Tryz.prog 9 #[.slice a0 len0 cap0] w fun e w' => e = .returned (.bool true) ∧ Below w.heap.size w w' := by
  have L := Lw.whole w0
  have HPE := Lib.hid (fun W hW => people_any (memH w) hG.utf hG.mlen W hW)
  have HG := Lib.hid hG
  clear hG w0
  go_enter Tryz.func9, Tryz.ntmps9
  go_wp2_with fail
  refine (L.rightRules_of (by omega) HG.out.pool HG.out.names HG.out.mlen (fun K H W h1 h2 h3 h4 => joinsMake _ _ K H W h1 h2 h3 h4)).mono ?_
  rintro e W1 ⟨r, H1, rfl, le1, -, L1, -, hri, hsz, hr0, hwk⟩
  have HL1 := Lib.hid L1
  have HLE1 := Lib.hid le1
  have HRI := Lib.hid hri
  have HSZ := Lib.hid hsz
  have HR0 := Lib.hid hr0
  clear L L1 le1 hri hsz hr0 hwk
  go_wp2_with fail
  refine (HL1.out.range 1 10 (by omega) (by omega) (by omega) (by omega)).mono ?_
  rintro e W2 ⟨n, rfl, n0, n1, Lq, -, -⟩
  have HL2 := Lib.hid Lq
  clear Lq HL1
  obtain ⟨m, rfl⟩ := Int.eq_ofNat_of_zero_le (show (0 : Int) ≤ n by omega)
  go_wp2_with fail
  refine (HL2.out.rightTouches (by omega) (HG.out.pool.le HLE1.out) (HG.out.names.le HLE1.out) (HG.out.utf.le HLE1.out) (HG.out.mlen.le HLE1.out) m (by omega)).mono ?_
  rintro e W3 ⟨v, ts, H2, rfl, le2, -, C3, hok, hlen⟩
  obtain ⟨A, cap, H3, rfl, hcap, le3, L3, R3, -⟩ := C3.1.frozen2
  have HT : Hid (Told H3 A r ts) := ⟨R3, fun t ht => (hok.inn t ht).le le3, (HRI.out.le le2).le le3, HSZ.out, HR0.out, hok.right, by omega⟩
  have HLE3 := Lib.hid (HLE1.out.trans (le2.trans le3))
  have HL3 := Lib.hid (L3.more (K' := 500000) (by omega))
  have hln := HT.out.len
  clear C3 L3 R3 le2 le3 hok HL2 HRI HSZ HLE1
  have HU3 := Lib.hid (HG.out.utf.le HLE3.out)
  have HM3 := Lib.hid (HG.out.mlen.le HLE3.out)
  have HPE3 : Hid (∀ W, H3.In W → Calls Tryz.prog 15 #[] W fun e w' => e = .returned (.bool true) ∧ Below W.heap.size W w') := fun W hW => HPE.out W (hW.le HLE3.out)
  clear HPE HG HLE3
  go_upto_region 3 with (fail)
  have HN4 := new1 (w := W3) (.cells #[.slice r.ka r.kinds.length r.kc, .int .i64 r.most, .slice r.wa r.weaks.length r.wc, .slice r.sa r.surs.length r.sc] 44)
  have HN5 := new1 (w := W3.alloc (.cells #[.slice r.ka r.kinds.length r.kc, .int .i64 r.most, .slice r.wa r.weaks.length r.wc, .slice r.sa r.surs.length r.sc] 44)) (.cells #[.slice A ts.length cap] 46)
  have HTB : Hid (((W3.alloc (.cells #[.slice r.ka r.kinds.length r.kc, .int .i64 r.most, .slice r.wa r.weaks.length r.wc, .slice r.sa r.surs.length r.sc] 44)).alloc (.cells #[.slice A ts.length cap] 46)).heap[W3.heap.size + 1]? = some (.cells #[.slice A ts.length cap] 46 (0, 0))) := heap_at (by simp)
  have HRB : Hid (((W3.alloc (.cells #[.slice r.ka r.kinds.length r.kc, .int .i64 r.most, .slice r.wa r.weaks.length r.wc, .slice r.sa r.surs.length r.sc] 44)).alloc (.cells #[.slice A ts.length cap] 46)).heap[W3.heap.size]? = some (.cells #[.slice r.ka r.kinds.length r.kc, .int .i64 r.most, .slice r.wa r.weaks.length r.wc, .slice r.sa r.surs.length r.sc] 44 (0, 0))) := (HN5.block _ (lt_of_heap (heap_alloc_new W3 (.cells #[.slice r.ka r.kinds.length r.kc, .int .i64 r.most, .slice r.wa r.weaks.length r.wc, .slice r.sa r.surs.length r.sc] 44)))).trans (heap_alloc_new W3 (.cells #[.slice r.ka r.kinds.length r.kc, .int .i64 r.most, .slice r.wa r.weaks.length r.wc, .slice r.sa r.surs.length r.sc] 44))
  have HN := Lib.hid (HN4.trans (HN5.mono HN4.size))
  clear HN4 HN5
  generalize (W3.alloc (.cells #[.slice r.ka r.kinds.length r.kc, .int .i64 r.most, .slice r.wa r.weaks.length r.wc, .slice r.sa r.surs.length r.sc] 44)).alloc (.cells #[.slice A ts.length cap] 46) = W4 at *
  have HIN4 := Lib.hid (HL3.out.fin.below HN.out)
  have z0 := cell_h HRB.out 0 (v := .slice r.ka r.kinds.length r.kc) rfl
  have z1 := cell_h HRB.out 1 (v := .int .i64 r.most) rfl
  have z2 := cell_h HRB.out 2 (v := .slice r.wa r.weaks.length r.wc) rfl
  have z3 := cell_h HRB.out 3 (v := .slice r.sa r.surs.length r.sc) rfl
  have z4 := cell_h HTB.out 0 (v := .slice A ts.length cap) rfl
  have HP2 := Lib.hid (fun W hW => persons_toldN H3 HU3.out HM3.out A cap r ts HT.out W hW)
  have ht9 := (tchs_right (HT.out.right.all (by omega))).2.1
  have HFIT : Hid (∀ t ∈ ts, ∀ x ∈ t.ids, FitId x) := fun t hx x hxx => fit_of ((ht9 t hx).idE x hxx)
  have HJP := Lib.hid (fun W hW => Joining_any H3 HU3.out HM3.out r A cap ts W hW HT.out.rul ⟨HT.out.row, fun t hx => ⟨(HT.out.inn t hx).ids, (HT.out.inn t hx).fds⟩⟩ HT.out.sz (by omega) (fun t hx => (HT.out.inn t hx).sz) HFIT.out)
  have HIDL : Hid (∀ t ∈ ts, t.ids.length ≤ 10) := fun t hx => (ht9 t hx).len.2
  clear ht9
  go_wp2_with fail
  refine (HP2.out W4 HIN4.out).mono ?_
  rintro e W5 ⟨hb5, Ap, cp, ps, rr, rfl, hu1, -, hq1, -, hp1⟩
  have y0 := lift_cell z0 _ hb5
  have y1 := lift_cell z1 _ hb5
  have y2 := lift_cell z2 _ hb5
  have y3 := lift_cell z3 _ hb5
  have y4 := lift_cell z4 _ hb5
  have HB5 := Lib.hid (HN.out.trans (hb5.mono HN.out.size))
  have HIN5 := Lib.hid (HIN4.out.below hb5)
  have HPN := Lib.hid hp1
  have HU := Lib.hid hu1
  have HQ := Lib.hid hq1
  have H45 : Hid (W3.heap.size ≤ W4.heap.size ∧ W4.heap.size ≤ W5.heap.size) := ⟨HN.out.size, hb5.size⟩
  have HRB5 := Lib.hid ((hb5.block _ (lt_of_heap HRB.out)).trans HRB.out)
  have HTB5 := Lib.hid ((hb5.block _ (lt_of_heap HTB.out)).trans HTB.out)
  clear z0 z1 z2 z3 z4 hb5 hu1 hq1 hp1 HP2 HRB HTB HIN4
  go_wp2_with fail
  refine (HJP.out W5 HIN5.out).mono ?_
  rintro e W6 ⟨hb6, ho⟩
  rcases ho with ⟨h, -⟩ | ⟨-, B6, jv, zs, rfl, hB6, hO6, hz1, hz2, hz3, hz4⟩
  · exact absurd HT.out.both h
  have HB6 := Lib.hid (HB5.out.trans (hb6.mono HB5.out.size))
  obtain ⟨hL6, hle6⟩ := HL3.out.fix HB6.out
  obtain ⟨jA, jc, rfl, -, hjr⟩ := hO6.memN (n := W3.heap.size) (by have := H45.out; omega)
  have HZR : Hid (Rw (H3.all W6 W3.heap.size) jA 2 fId zs) := hjr.le newH_all
  have HPA : Hid (PerIn (H3.all W6 W3.heap.size) Ap ps) := (HPN.out.le (newH_mono H45.out.1 hb6)).le newH_all
  have HRB6 : Hid (H3.all W6 W3.heap.size W3.heap.size = some (.cells #[.slice r.ka r.kinds.length r.kc, .int .i64 r.most, .slice r.wa r.weaks.length r.wc, .slice r.sa r.surs.length r.sc] 44 (0, 0))) := by
    show _ = _
    rw [Frz.all_ge (Nat.le_refl _)]
    exact (hb6.block _ (lt_of_heap HRB5.out)).trans HRB5.out
  have HTB6 : Hid (H3.all W6 W3.heap.size (W3.heap.size + 1) = some (.cells #[.slice A ts.length cap] 46 (0, 0))) := by
    show _ = _
    rw [Frz.all_ge (by omega)]
    exact (hb6.block _ (lt_of_heap HTB5.out)).trans HTB5.out
  have HT6 := Lib.hid (HT.out.le hle6)
  have HU6 := Lib.hid (HU3.out.le hle6)
  have HM6 := Lib.hid (HM3.out.le hle6)
  have HPE6 : Hid (∀ W, (H3.all W6 W3.heap.size).In W → Calls Tryz.prog 15 #[] W fun e w' => e = .returned (.bool true) ∧ Below W.heap.size W w') := fun W hW => HPE3.out W (hW.le hle6)
  have HL6 := Lib.hid hL6
  have HJM := Lib.hid hz4
  have hpn := pers_sz HQ.out hln
  have HRIS := Lib.hid HT.out.rising
  have HTG : Hid (∀ i j (hi : i < ts.length) (hj : j < ts.length), anyF (togB ts[i].no ts[j].no) ps = true ↔ Tied (Share (JD r ts) ts) i j) := fun i j hi hj => tied_tog HU.out HQ.out HRIS.out hi hj
  clear hb6 hO6 hz1 hz3 hz4 hL6 hle6 hjr HPN HRB5 HTB5 HU HQ HT HU3 HM3 HPE3 HIN5 HB5 HB6 HL3 HN H45 HJP y0 y1 y2 y3 y4
  generalize H3.all W6 W3.heap.size = H6 at *
  generalize W3.heap.size = rb at *
  clear H3
  go_wp2_with fail
  go_loopw [45] (fun t wr => ∃ k : Nat, k ≤ 4 ∧ t = .int .i64 k ∧ Hid (Lw w w.heap.size (500000 + 20 * k) H6 wr)) (fun t _ => 4 - (intOf t).toNat)
  case atStart => exact ⟨0, by omega, rfl, HL6⟩
  case round =>
    obtain ⟨k, hk, rfl, LL⟩ := hrel
    clear HL6
    have hin := LL.out.fin
    have x0 := cell_h (hin _ _ HRB6.out) 0 (v := .slice r.ka r.kinds.length r.kc) rfl
    have x1 := cell_h (hin _ _ HRB6.out) 1 (v := .int .i64 r.most) rfl
    have x2 := cell_h (hin _ _ HRB6.out) 2 (v := .slice r.wa r.weaks.length r.wc) rfl
    have x3 := cell_h (hin _ _ HRB6.out) 3 (v := .slice r.sa r.surs.length r.sc) rfl
    have x4 := cell_h (hin _ _ HTB6.out) 0 (v := .slice A ts.length cap) rfl
    have HPQ := Lib.hid (HPE6.out wr hin)
    have HLW := Lib.hid LL.out.bel
    clear hin
    by_cases hlt : k < 4
    · by_cases hem : ts.length = 0
      · have k0 : ((ts.length : Int) == 0) = true := by simp [hem]
        clear hem LL
        go_wp2_with fail
        refine HPQ.out.mono ?_
        rintro e W7 ⟨rfl, hb7⟩
        have HF := Lib.hid (HLW.out.trans (hb7.mono HLW.out.size))
        clear hb7
        go_wp2_with fail
        exact bodyPost_ret (by kernel_rfl) rfl ⟨rfl, HF.out⟩
      · have k0 : ((ts.length : Int) == 0) = false := by simp; exact fun c => hem (by simp [c])
        obtain ⟨b, off, hA, -⟩ := HT6.out.row 0 (by omega)
        have HCC : Hid (∀ W, H6.In W → ∀ i (hi : i < ts.length), W.cell? ⟨b, off + i * 5, none⟩ = some (.int .i64 ts[i].no)) := fun W hW i hi => by
          obtain ⟨b', off', hA', hc⟩ := HT6.out.row i hi
          rw [hA] at hA'
          simp only [Option.some.injEq, Addr.mk.injEq, and_true] at hA'
          obtain ⟨rfl, rfl⟩ := hA'
          exact hW.cell (hc 0 (by omega))
        subst hA
        have hpos : 1 ≤ (ts.length : Int) := by omega
        clear hem HPQ HLW
        go_upto_region 11 with (fail)
        clear k0 x0 x1 x2 x3 x4
        refine wp_region_conc 17 157 (φTie w.heap.size b off cap ts) (fun q W' => Lw w w.heap.size (500000 + 20 * k + q) H6 W') (fun _ _ => True) (by kernel_rfl) (by kernel_rfl) (by rfl) (LL.out.drewN 1) (fun i v W W' _ _ h => h) ?_ ?_
        · intro n o hn ho a W8 kk hkk hJ hkn
          have hcs : n = 0 ∨ n = 1 ∨ n = 2 ∨ n = 3 ∨ n = 4 ∨ n = 5 ∨ n = 6 ∨ n = 7 ∨ n = 8 ∨ n = 9 ∨ n = 10 ∨ n = 11 ∨ n = 12 ∨ n = 13 ∨ n = 14 ∨ n = 15 ∨ n = 16 := by omega
          rcases hcs with rfl | rfl | rfl | rfl | rfl | rfl | rfl | rfl | rfl | rfl | rfl | rfl | rfl | rfl | rfl | rfl | rfl
          · obtain rfl := Option.some.inj ho
            have ct := cell_h (hJ.fin _ _ HTB6.out) 0 (v := .slice (some ⟨b, off, none⟩) ts.length cap) rfl
            have h1 := slotA_of (hkn 5 (by decide) : a.tmps.getD 5 undef = .pointer (some ⟨rb + 1, 0, none⟩))
            clear hkn ho
            simp only [OpV, execOp]
            simp [go_sem, h1, ct]
            exact ⟨rfl, hJ.more (by omega)⟩
          · obtain rfl := Option.some.inj ho
            have h1 := slotA_of (hkn 3 (by decide) : a.tmps.getD 3 undef = .pointer (some ⟨w.heap.size, 0, none⟩))
            clear hkn ho
            simp only [OpV, execOp]
            simp [go_sem, h1]
            exact ⟨rfl, hJ.more (by omega)⟩
          · obtain rfl := Option.some.inj ho
            have ct := cell_h (hJ.fin _ _ HTB6.out) 0 (v := .slice (some ⟨b, off, none⟩) ts.length cap) rfl
            have h1 := slotA_of (hkn 5 (by decide) : a.tmps.getD 5 undef = .pointer (some ⟨rb + 1, 0, none⟩))
            clear hkn ho
            simp only [OpV, execOp]
            simp [go_sem, h1, ct]
            exact ⟨rfl, hJ.more (by omega)⟩
          · obtain rfl := Option.some.inj ho
            have h1 := slotA_of (hkn 52 (by decide) : a.tmps.getD 52 undef = .slice (some ⟨b, off, none⟩) ts.length cap)
            clear hkn ho
            simp only [OpV, execOp]
            simp [go_sem, h1]
            exact ⟨rfl, hJ.more (by omega)⟩
          · obtain rfl := Option.some.inj ho
            have h1 := slotA_of (hkn 51 (by decide) : a.tmps.getD 51 undef = .pointer (some ⟨w.heap.size, 0, none⟩))
            have h2 := slotA_of (hkn 53 (by decide) : a.tmps.getD 53 undef = .int .i64 ts.length)
            clear hkn ho
            simp only [OpV, execOp]
            simp [go_sem, h1, h2]
            exact (hJ.next _ (by omega) (by omega)).mono fun e w'' ⟨z, he, hz0, hz1, _, L', _, _⟩ => ⟨_, he, ⟨z.toNat, by have := hz1 (by omega); omega, by rw [Int.toNat_of_nonneg hz0]⟩, L'.more (by omega)⟩
          · obtain rfl := Option.some.inj ho
            have h1 := slotA_of (hkn 50 (by decide) : a.tmps.getD 50 undef = .slice (some ⟨b, off, none⟩) ts.length cap)
            obtain ⟨q, hq, eq⟩ : ∃ k : Nat, k < ts.length ∧ a.tmps.getD 54 undef = .int .i64 k := hkn 54 (by decide)
            have h2 := slotA_of eq
            clear hkn ho eq
            simp only [OpV, execOp]
            simp [go_sem, h1, h2, hq]
            exact ⟨⟨q, hq, rfl⟩, hJ.more (by omega)⟩
          · obtain rfl := Option.some.inj ho
            obtain ⟨q, hq, eq⟩ : ∃ k : Nat, k < ts.length ∧ a.tmps.getD 55 undef = .pointer (some ⟨b, off + k * 5, none⟩) := hkn 55 (by decide)
            have h2 := slotA_of eq
            clear hkn ho eq
            simp only [OpV, execOp]
            simp [go_sem, h2]
            exact ⟨⟨q, hq, rfl⟩, hJ.more (by omega)⟩
          · obtain rfl := Option.some.inj ho
            obtain ⟨q, hq, eq⟩ : ∃ k : Nat, k < ts.length ∧ a.tmps.getD 56 undef = .pointer (some ⟨b, off + k * 5, none⟩) := hkn 56 (by decide)
            have h2 := slotA_of eq
            have cn := HCC.out W8 hJ.fin q hq
            clear hkn ho eq
            simp only [OpV, execOp]
            simp [go_sem, h2, cn]
            exact ⟨⟨q, hq, rfl⟩, hJ.more (by omega)⟩
          · obtain rfl := Option.some.inj ho
            have ct := cell_h (hJ.fin _ _ HTB6.out) 0 (v := .slice (some ⟨b, off, none⟩) ts.length cap) rfl
            have h1 := slotA_of (hkn 5 (by decide) : a.tmps.getD 5 undef = .pointer (some ⟨rb + 1, 0, none⟩))
            clear hkn ho
            simp only [OpV, execOp]
            simp [go_sem, h1, ct]
            exact ⟨rfl, hJ.more (by omega)⟩
          · obtain rfl := Option.some.inj ho
            have h1 := slotA_of (hkn 3 (by decide) : a.tmps.getD 3 undef = .pointer (some ⟨w.heap.size, 0, none⟩))
            clear hkn ho
            simp only [OpV, execOp]
            simp [go_sem, h1]
            exact ⟨rfl, hJ.more (by omega)⟩
          · obtain rfl := Option.some.inj ho
            have ct := cell_h (hJ.fin _ _ HTB6.out) 0 (v := .slice (some ⟨b, off, none⟩) ts.length cap) rfl
            have h1 := slotA_of (hkn 5 (by decide) : a.tmps.getD 5 undef = .pointer (some ⟨rb + 1, 0, none⟩))
            clear hkn ho
            simp only [OpV, execOp]
            simp [go_sem, h1, ct]
            exact ⟨rfl, hJ.more (by omega)⟩
          · obtain rfl := Option.some.inj ho
            have h1 := slotA_of (hkn 60 (by decide) : a.tmps.getD 60 undef = .slice (some ⟨b, off, none⟩) ts.length cap)
            clear hkn ho
            simp only [OpV, execOp]
            simp [go_sem, h1]
            exact ⟨rfl, hJ.more (by omega)⟩
          · obtain rfl := Option.some.inj ho
            have h1 := slotA_of (hkn 59 (by decide) : a.tmps.getD 59 undef = .pointer (some ⟨w.heap.size, 0, none⟩))
            have h2 := slotA_of (hkn 61 (by decide) : a.tmps.getD 61 undef = .int .i64 ts.length)
            clear hkn ho
            simp only [OpV, execOp]
            simp [go_sem, h1, h2]
            exact (hJ.next _ (by omega) (by omega)).mono fun e w'' ⟨z, he, hz0, hz1, _, L', _, _⟩ => ⟨_, he, ⟨z.toNat, by have := hz1 (by omega); omega, by rw [Int.toNat_of_nonneg hz0]⟩, L'.more (by omega)⟩
          · obtain rfl := Option.some.inj ho
            have h1 := slotA_of (hkn 58 (by decide) : a.tmps.getD 58 undef = .slice (some ⟨b, off, none⟩) ts.length cap)
            obtain ⟨q, hq, eq⟩ : ∃ k : Nat, k < ts.length ∧ a.tmps.getD 62 undef = .int .i64 k := hkn 62 (by decide)
            have h2 := slotA_of eq
            clear hkn ho eq
            simp only [OpV, execOp]
            simp [go_sem, h1, h2, hq]
            exact ⟨⟨q, hq, rfl⟩, hJ.more (by omega)⟩
          · obtain rfl := Option.some.inj ho
            obtain ⟨q, hq, eq⟩ : ∃ k : Nat, k < ts.length ∧ a.tmps.getD 63 undef = .pointer (some ⟨b, off + k * 5, none⟩) := hkn 63 (by decide)
            have h2 := slotA_of eq
            clear hkn ho eq
            simp only [OpV, execOp]
            simp [go_sem, h2]
            exact ⟨⟨q, hq, rfl⟩, hJ.more (by omega)⟩
          · obtain rfl := Option.some.inj ho
            obtain ⟨q, hq, eq⟩ : ∃ k : Nat, k < ts.length ∧ a.tmps.getD 64 undef = .pointer (some ⟨b, off + k * 5, none⟩) := hkn 64 (by decide)
            have h2 := slotA_of eq
            have cn := HCC.out W8 hJ.fin q hq
            clear hkn ho eq
            simp only [OpV, execOp]
            simp [go_sem, h2, cn]
            exact ⟨⟨q, hq, rfl⟩, hJ.more (by omega)⟩
          · obtain rfl := Option.some.inj ho
            obtain ⟨q, hq, eq⟩ : ∃ (k : Nat) (h : k < ts.length), a.tmps.getD 57 undef = .int .i64 ts[k].no := hkn 57 (by decide)
            have h2 := slotA_of eq
            clear hkn ho eq
            simp only [OpV, execOp]
            simp [go_sem, h2]
            exact ⟨⟨q, hq, rfl⟩, hJ.more (by omega)⟩
        · intro xv Wv hJv hφ
          obtain ⟨i, hi, ei⟩ : ∃ (k : Nat) (h : k < ts.length), xv 16 = .int .i64 ts[k].no := hφ 16 (by omega)
          obtain ⟨j, hj, ej⟩ : ∃ (k : Nat) (h : k < ts.length), xv 15 = .int .i64 ts[k].no := hφ 15 (by omega)
          simp only [List.drop_succ_cons, List.drop_zero, List.take_succ_cons, List.take_zero, putAll, Nat.reduceAdd, ei, ej]
          have HLV := Lib.hid hJv
          clear hφ hJv ei ej
          generalize xv 0 = y0
          generalize xv 1 = y1
          generalize xv 2 = y2
          generalize xv 3 = y3
          generalize xv 4 = y4
          generalize xv 5 = y5
          generalize xv 6 = y6
          generalize xv 7 = y7
          generalize xv 8 = y8
          generalize xv 9 = y9
          generalize xv 10 = y10
          generalize xv 11 = y11
          generalize xv 12 = y12
          generalize xv 13 = y13
          generalize xv 14 = y14
          have hin := HLV.out.fin
          have x0 := cell_h (hin _ _ HRB6.out) 0 (v := .slice r.ka r.kinds.length r.kc) rfl
          have x1 := cell_h (hin _ _ HRB6.out) 1 (v := .int .i64 r.most) rfl
          have x2 := cell_h (hin _ _ HRB6.out) 2 (v := .slice r.wa r.weaks.length r.wc) rfl
          have x3 := cell_h (hin _ _ HRB6.out) 3 (v := .slice r.sa r.surs.length r.sc) rfl
          have x4 := cell_h (hin _ _ HTB6.out) 0 (v := .slice (some ⟨b, off, none⟩) ts.length cap) rfl
          have HCH := Lib.hid (chain_any H6 HU6.out HM6.out r (some ⟨b, off, none⟩) cap ts HT6.out i j hi hj Wv hin)
          have HTR := Lib.hid (fun W hW => together_any H6 Ap cp ps ts[i].no ts[j].no W hW HPA.out hpn.1 hpn.2)
          have HTI := Lib.hid (HTG.out i j hi hj)
          have HNA : Hid (∃ h : i < ts.length, ts[i].no = ts[i].no) := ⟨hi, rfl⟩
          obtain ⟨na, hna⟩ : ∃ n, n = ts[i].no := ⟨_, rfl⟩
          obtain ⟨nb, hnb⟩ : ∃ n, n = ts[j].no := ⟨_, rfl⟩
          rw [← hna, ← hnb] at HTR HTI HCH
          rw [← hna, ← hnb]
          have HNI := Lib.hid hna
          have HNJ := Lib.hid hnb
          clear hin hna hnb HNA
          go_wp2_with fail
          refine HCH.out.mono ?_
          rintro e W9 ⟨hb9, ho⟩
          have HL9 := Lib.hid (HLV.out.call hb9)
          clear HCH x0 x1 x2 x3 x4
          rcases ho with ⟨hnt, rfl⟩ | ⟨htd, cv, cs, rfl, hO, hcl, hC⟩
          · have ha : anyF (togB na nb) ps = false := by
              cases h : anyF (togB na nb) ps with
              | false => rfl
              | true => exact absurd (HTI.out.1 h) hnt
            have HT2 := Lib.hid (HTR.out W9 HL9.out.fin)
            rw [ha] at HT2
            clear HTR HTI ha hnt hb9 HLV
            go_wp2_with fail
            refine HT2.out.mono ?_
            rintro e W10 ⟨rfl, hb10⟩
            have HL10 := Lib.hid (HL9.out.call hb10)
            clear hb10 HT2
            go_wp2_with fail
            go_roundw
            case rel => exact ⟨k + 1, by omega, by go_num, HL10.out.more (by omega)⟩
            case measure => simp [intOf]; omega
          · have ha : anyF (togB na nb) ps = true := HTI.out.2 htd
            have HT2 := Lib.hid (HTR.out W9 HL9.out.fin)
            rw [ha] at HT2
            obtain ⟨cA, cc, hcv, -⟩ := hO.slice
            subst hcv
            have HO9 := Lib.hid hO
            have HC := Lib.hid hC
            have HB9 := Lib.hid hb9
            clear HTR HTI ha htd hb9 hO hC
            go_wp2_with fail
            refine HT2.out.mono ?_
            rintro e W10 ⟨rfl, hb10⟩
            obtain ⟨hL10, hle⟩ := HLV.out.fix (HB9.out.trans (hb10.mono HB9.out.size))
            obtain ⟨cA', cc', hcv, -, hcr⟩ := (HO9.out.below hb10).memN (Nat.le_refl _)
            cases hcv
            replace hcr := hcr.le (newH_all (H := H6))
            have HLE := Lib.hid hle
            have HL10 := Lib.hid hL10
            clear HT2 HL9 HLV HO9 HB9 hb10 hL10
            have HT9 := Lib.hid (HT6.out.le hle)
            have HZR9 := Lib.hid (HZR.out.le hle)
            have HTB9 := Lib.hid (hle _ _ HTB6.out)
            clear hle
            generalize H6.all W10 Wv.heap.size = H9 at *
            have hpos2 := HC.out.pos
            obtain ⟨cb, coff, hcA, -⟩ := hcr 0 hpos2
            have HLC : Hid (∀ W, H9.In W → ∀ q (hq : q < cs.length), W.cell? ⟨cb, coff + q * 3, none⟩ = some (.int .i64 cs[q].no) ∧ W.cell? ⟨cb, coff + q * 3 + 1, none⟩ = some (.int .i64 cs[q].id.kind) ∧ W.cell? ⟨cb, coff + q * 3 + 2, none⟩ = some (.string cs[q].id.text)) := fun W hW q hq => by
              obtain ⟨b', off', hA', hc⟩ := hcr q hq
              rw [hcA] at hA'
              simp only [Option.some.injEq, Addr.mk.injEq, and_true] at hA'
              obtain ⟨rfl, rfl⟩ := hA'
              exact ⟨hW.cell (hc 0 (by omega)), hW.cell (hc 1 (by omega)), hW.cell (hc 2 (by omega))⟩
            subst hcA
            obtain ⟨l, hl⟩ : ∃ l, l = cs.length - 1 := ⟨_, rfl⟩
            have hls : l < cs.length := by omega
            have h00 : W10.cell? ⟨cb, coff, none⟩ = some (.int .i64 na) := by
              have h := (HLC.out W10 HL10.out.fin 0 hpos2).1
              obtain ⟨c, e1, e2⟩ := HC.out.hd
              rw [List.getElem?_eq_getElem hpos2] at e1
              obtain rfl := Option.some.inj e1
              rw [e2, ← HNI.out] at h
              simpa using h
            have h0l : W10.cell? ⟨cb, coff + l * 3, none⟩ = some (.int .i64 nb) := by
              have h := (HLC.out W10 HL10.out.fin l hls).1
              obtain ⟨c, e1, e2⟩ := HC.out.lst
              rw [← hl, List.getElem?_eq_getElem hls] at e1
              obtain rfl := Option.some.inj e1
              rw [e2, ← HNJ.out] at h
              exact h
            have a1 : IntKind.i64.wrap ((cs.length : Int) - 1) = (l : Int) := by rw [show (cs.length : Int) - 1 = l by omega]; exact IntWalk.i64_in _ (by omega)
            have a2 : (cs.length : Int) - 1 = (l : Int) := by omega
            have a3 : IntKind.i64.wrap (l : Int) = (l : Int) := IntWalk.i64_in _ (by omega)
            have k9 : ((cs.length : Int) == 0) = false := beq_eq_false_iff_ne.2 (by omega)
            have HCL := Lib.hid hl
            clear hl hcr
            go_wp2_with fail
            clear h00 h0l a1 a2 a3 k9
            go_loopw [15] (fun t wr => ∃ q0 q : Nat, q = q0 + 1 ∧ q ≤ cs.length ∧ t = .int .i64 q ∧ Hid (Lw w w.heap.size (500000 + 20 * k + 17) H9 wr)) (fun t _ => cs.length - (intOf t).toNat)
            case atStart => exact ⟨0, 1, rfl, by omega, rfl, HL10⟩
            case round =>
              obtain ⟨q0, q, hq01, hq, rfl, LL⟩ := hrel
              clear HL10
              by_cases hlt : q < cs.length
              · obtain ⟨hxz, i', j', hi', hj', e1, e2, hx1, hx2⟩ := HC.out.use HJM.out HFIT.out (k := q0) (by omega)
                have hqi : (q : Int) < cs.length := by omega
                have hq0i : (q0 : Int) < cs.length := by omega
                have HD0 : Hid (∀ W, H9.In W → W.cell? ⟨cb, coff + q0 * 3, none⟩ = some (.int .i64 ts[i'].no)) := fun W hW => by
                  rw [← e1]; exact (HLC.out W hW q0 (by omega)).1
                simp only [← hq01] at hxz e2 hx1 hx2
                have HD1 : Hid (∀ W, H9.In W → W.cell? ⟨cb, coff + q * 3, none⟩ = some (.int .i64 ts[j'].no)) := fun W hW => by
                  rw [← e2]; exact (HLC.out W hW q hlt).1
                obtain ⟨-, d1, d2⟩ := HLC.out wr LL.out.fin q hlt
                have d3 : wr.cell? ⟨cb, coff + q * 3 + 1 + 1, none⟩ = some (.string cs[q].id.text) := d2
                have HXZ := Lib.hid hxz
                have HX1 := Lib.hid hx1
                have HX2 := Lib.hid hx2
                have hw1 : IntKind.i64.wrap ((q : Int) - 1) = (q0 : Int) := by rw [show (q : Int) - 1 = q0 by omega]; exact IntWalk.i64_in _ (by omega)
                have hw2 : (q : Int) - 1 = (q0 : Int) := by omega
                have hw3 : IntKind.i64.wrap (q0 : Int) = (q0 : Int) := IntWalk.i64_in _ (by omega)
                have HT1 := Lib.hid (fun W hW => tie_any H9 (some ⟨b, off, none⟩) cap ts (rb + 1) W hW (by unfold Frz.cell?; rw [HTB9.out]; rfl) HT9.out.row (by omega) HRIS.out i' hi')
                have HT2 := Lib.hid (fun W hW => tie_any H9 (some ⟨b, off, none⟩) cap ts (rb + 1) W hW (by unfold Frz.cell?; rw [HTB9.out]; rfl) HT9.out.row (by omega) HRIS.out j' hj')
                have HI1 := Lib.hid (HT9.out.inn _ (List.getElem_mem hi')).ids
                have HI2 := Lib.hid (HT9.out.inn _ (List.getElem_mem hj')).ids
                have HIL1 := Lib.hid (HIDL.out _ (List.getElem_mem hi'))
                have HIL2 := Lib.hid (HIDL.out _ (List.getElem_mem hj'))
                clear hxz hx1 hx2 e1 e2
                generalize cs[q].id = x at *
                generalize ts[i'] = u1 at *
                generalize ts[j'] = u2 at *
                have HC0 := Lib.hid (fun W hW => contains_Id H9 jA jc zs x W hW HZR9.out (by omega))
                have HC1 := Lib.hid (fun W hW => contains_Id H9 u1.ia u1.ic u1.ids x W hW HI1.out (by have := HIL1.out; omega))
                have HC2 := Lib.hid (fun W hW => contains_Id H9 u2.ia u2.ic u2.ids x W hW HI2.out (by have := HIL2.out; omega))
                rw [show anyF (eqId x) zs = true from hasId_iff.2 HXZ.out] at HC0
                rw [show anyF (eqId x) u1.ids = true from hasId_iff.2 HX1.out] at HC1
                rw [show anyF (eqId x) u2.ids = true from hasId_iff.2 HX2.out] at HC2
                have hn1 := new1 (w := wr) (.cells #[.int .i64 x.kind, .string x.text] 55)
                have HLN := Lib.hid (LL.out.call hn1)
                have HXB := Lib.hid (heap_alloc_new wr (.cells #[.int .i64 x.kind, .string x.text] 55))
                have HQ01 := Lib.hid hq01
                clear hn1 LL hq01
                go_upto_region 22 with (fail)
                clear d1 d2 d3
                generalize wr.alloc (.cells #[.int .i64 x.kind, .string x.text] 55) = W11 at *
                generalize wr.heap.size = xb at *
                have hin := fun W (hW : Below W11.heap.size W11 W) => HLN.out.fin.below hW
                have K0 := lift_cell (cell_h HXB.out 0 (v := .int .i64 x.kind) rfl)
                have K1 := lift_cell (cell_h HXB.out 1 (v := .string x.text) rfl)
                have K2 := fun W (hW : Below W11.heap.size W11 W) => HD0.out W (hin W hW)
                have K3 := fun W (hW : Below W11.heap.size W11 W) => HD1.out W (hin W hW)
                have hf1 : ∀ W, (Instr.field 53 (.agg #[.int .i64 u1.no, .int .i64 u1.at_, .string u1.source, .slice u1.ia u1.ids.length u1.ic, .slice u1.fa u1.fields.length u1.fc]) 3).run Tryz.prog W = .ok (.slice u1.ia u1.ids.length u1.ic) W := fun W => by kernel_rfl
                have hf2 : ∀ W, (Instr.field 53 (.agg #[.int .i64 u2.no, .int .i64 u2.at_, .string u2.source, .slice u2.ia u2.ids.length u2.ic, .slice u2.fa u2.fields.length u2.fc]) 3).run Tryz.prog W = .ok (.slice u2.ia u2.ids.length u2.ic) W := fun W => by kernel_rfl
                (refine wp_region_det 30 157 (fun W => Below (W11).heap.size (W11) W) (by kernel_rfl) (by kernel_rfl) (by rfl) (Below.refl _ _).drew ?_; simp only [List.take_succ_cons, List.take_zero, List.drop_succ_cons, List.drop_zero])
                iterate 2 (refine detSeq_op rfl ?_ (fun W hW => ?_) ?_; rotate_left; (focus simp only [OpV]; go_simp; first | exact rfl | exact ⟨rfl, hW⟩))
                (refine detSeq_op rfl ?_ (fun W hW => ?_) ?_; rotate_left; focus (simp only [OpV]; go_simp; refine (HC0.out W (hin W hW)).mono ?_; rintro e w' ⟨rfl, hb⟩; refine ⟨_, rfl, ?_, det_back hW hb⟩; exact rfl))
                iterate 2 (refine detSeq_op rfl ?_ (fun W hW => ?_) ?_; rotate_left; (focus simp only [OpV]; go_simp; first | exact rfl | exact ⟨rfl, hW⟩))
                iterate 4 (refine detSeq_yes (by kernel_rfl) ?_ (fun W hW => ?_) ?_; rotate_left; (focus simp only [OpV]; go_simp; first | exact rfl | exact ⟨rfl, hW⟩))
                iterate 3 (refine detSeq_yes (by kernel_rfl) ?_ (fun W hW => ?_) ?_; rotate_left; (focus simp only [OpV]; go_simp; first | exact rfl | exact ⟨rfl, hW⟩))
                (refine detSeq_yes (by kernel_rfl) ?_ (fun W hW => ?_) ?_; rotate_left; focus (simp only [OpV]; go_simp; refine (HT1.out W (hin W hW)).mono ?_; rintro e w' ⟨rfl, hb⟩; refine ⟨_, rfl, ?_, det_back hW hb⟩; exact rfl))
                iterate 2 (refine detSeq_yes (by kernel_rfl) ?_ (fun W hW => ?_) ?_; rotate_left; (focus simp only [OpV]; go_simp; first | exact rfl | exact ⟨rfl, hW⟩))
                (refine detSeq_yes (by kernel_rfl) ?_ (fun W hW => ?_) ?_; rotate_left; focus (simp only [OpV]; go_simp; refine (HC1.out W (hin W hW)).mono ?_; rintro e w' ⟨rfl, hb⟩; refine ⟨_, rfl, ?_, det_back hW hb⟩; exact rfl))
                iterate 1 (refine detSeq_yes (by kernel_rfl) ?_ (fun W hW => ?_) ?_; rotate_left; (focus simp only [OpV]; go_simp; first | exact rfl | exact ⟨rfl, hW⟩))
                iterate 2 (refine detSeq_op rfl ?_ (fun W hW => ?_) ?_; rotate_left; (focus simp only [OpV]; go_simp; first | exact rfl | exact ⟨rfl, hW⟩))
                iterate 6 (refine detSeq_yes (by kernel_rfl) ?_ (fun W hW => ?_) ?_; rotate_left; (focus simp only [OpV]; go_simp; first | exact rfl | exact ⟨rfl, hW⟩))
                (refine detSeq_yes (by kernel_rfl) ?_ (fun W hW => ?_) ?_; rotate_left; focus (simp only [OpV]; go_simp; refine (HT2.out W (hin W hW)).mono ?_; rintro e w' ⟨rfl, hb⟩; refine ⟨_, rfl, ?_, det_back hW hb⟩; exact rfl))
                iterate 2 (refine detSeq_yes (by kernel_rfl) ?_ (fun W hW => ?_) ?_; rotate_left; (focus simp only [OpV]; go_simp; first | exact rfl | exact ⟨rfl, hW⟩))
                (refine detSeq_yes (by kernel_rfl) ?_ (fun W hW => ?_) ?_; rotate_left; focus (simp only [OpV]; go_simp; refine (HC2.out W (hin W hW)).mono ?_; rintro e w' ⟨rfl, hb⟩; refine ⟨_, rfl, ?_, det_back hW hb⟩; exact rfl))
                iterate 1 (refine detSeq_yes (by kernel_rfl) ?_ (fun W hW => ?_) ?_; rotate_left; (focus simp only [OpV]; go_simp; first | exact rfl | exact ⟨rfl, hW⟩))
                refine detSeq_nil (fun W12 hW12 => ?_)
                have HLN2 := Lib.hid (HLN.out.call hW12)
                clear K0 K1 K2 K3 hf1 hf2 hin hW12 hw1 hw2 hw3
                go_wp2_with fail
                go_roundw
                case rel => exact ⟨q, q + 1, rfl, by omega, by go_num, HLN2⟩
                case measure => simp [intOf]; omega
              · have hqe : q = cs.length := by omega
                subst hqe
                go_wp2_with fail
                go_roundw
                case rel => exact ⟨k + 1, by omega, by go_num, ((LL.out.less HLE.out).more (by omega))⟩
                case measure => simp [intOf]; omega
    · have hke : k = 4 := by omega
      subst hke
      clear LL
      go_wp2_with fail
      refine HPQ.out.mono ?_
      rintro e W7 ⟨rfl, hb7⟩
      have HF := Lib.hid (HLW.out.trans (hb7.mono HLW.out.size))
      clear hb7
      go_wp2_with fail
      exact bodyPost_ret (by kernel_rfl) rfl ⟨rfl, HF.out⟩
end Go.Proofs.YtbidhpgjmcedaaaGreatDoor
