/- The law PursesHold returns true, whatever its numbers. -/
import Derived.Test.YtecbejmeejepmaaDoorPurseP
import Derived.Test.YtecbejmeejepmaaDoorMakeBudgets
import Derived.Test.YtecbejmeejepmaaDoorOffers
import Derived.Deep.CutBlock
import Derived.Deep.DeepCutAuto
namespace Go.Proofs.YtecbejmeejepmaaDoor
set_option linter.unusedVariables false
open Go.RowKit
/-- The law's state: the stream, the purse. -/
structure LP (w : World) (bs K : Nat) (H : Frz) (W : World) (g : Nat) (ds : List BudgetD) (hs : List HoldD) (now : Int) : Prop where
  lw : Lw w bs K H W
  ps : PS H W g ds hs now
  lt : bs < g
section
variable {w W W' : World} {bs K K' g : Nat} {H : Frz} {ds : List BudgetD} {hs : List HoldD} {now at_ tn : Int} {m : Int → Bool}
theorem LP.more (h : LP w bs K H W g ds hs now) (hK : K ≤ K') : LP w bs K' H W g ds hs now := ⟨h.lw.more hK, h.ps, h.lt⟩
theorem LP.call (h : LP w bs K H W g ds hs now) (hb : Below W.heap.size W W') : LP w bs K H W' g ds hs now := ⟨h.lw.call hb, h.ps.below hb, h.lt⟩
theorem LP.asked (h : LP w bs K H W g ds hs now) (L : Lw w bs K' H W') (hg : W.grownBy W' (some bs)) : LP w bs K' H W' g ds hs now := ⟨L, h.ps.grown hg h.lt h.lw.apart, h.lt⟩
theorem LP.alloc (h : LP w bs K H W g ds hs now) (o : Obj) : LP w bs K H (W.alloc o) g ds hs now := h.call ((Below.refl _ _).alloc (Nat.le_refl _) _)
theorem LP.own (h : LP w bs K H W g ds hs now) {hs' : List HoldD} {now' : Int} (hp : PS H W' g ds hs' now') (hb : Below g W W') : LP w bs K H W' g ds hs' now' :=
  ⟨⟨h.lw.st.below (hb.mono h.lt), h.lw.bel.trans (hb.mono (by have := h.lw.le; have := h.lt; omega)), h.lw.le, hp.fin, h.lw.apart⟩, hp, h.lt⟩
def Left' (w : World) (bs K : Nat) (H : Frz) (W' : World) (g : Nat) (ds : List BudgetD) (at_ : Int) : Prop := ∃ hs' now', now' ≤ at_ ∧ LP w bs K H W' g ds hs' now' ∧ PInv ds hs' now'
theorem Left'.more (h : Left' w bs K H W g ds at_) (hK : K ≤ K') : Left' w bs K' H W g ds at_ := by
  obtain ⟨a, b, c, d, e⟩ := h
  exact ⟨a, b, c, d.more hK, e⟩
theorem LP.turn (h : LP w bs K H W g ds hs now) (hI : PInv ds hs now) (hn : now ≤ at_) (hto : (tn = 2 ∧ ∀ s, m s = true → s = 1) ∨ tn = 3) (ht : TurnPost H g ds hs now at_ tn m W W') : Left' w bs K H W' g ds at_ := by
  obtain ⟨hs', now', hp, hb, ⟨rfl, rfl⟩ | ⟨rfl, i, hi, hm, rfl⟩⟩ := ht
  · exact ⟨_, _, hn, h.own hp hb, hI⟩
  · exact ⟨_, _, Int.le_refl _, h.own hp hb, hI.turned hn hi hm hto⟩
theorem LP.reserve {key : ByteArray} {cents until_ : Int} (h : LP w bs K H W g ds hs now) (hI : PInv ds hs now) (hOK : BudgetsOK ds) (hn : now ≤ at_) (h0 : 0 ≤ at_) (c1 : 0 ≤ cents) (c2 : cents ≤ 1000000000000) (hu : at_ < until_) (ht : ResPost H g ds hs now at_ key cents until_ W W') : Left' w bs K H W' g ds at_ := by
  obtain ⟨hs', now', hp, hb, ⟨rfl, rfl⟩ | ⟨rfl, d, hd, hk, hl, no, rfl⟩⟩ := ht
  · exact ⟨_, _, hn, h.own hp hb, hI⟩
  · exact ⟨_, _, Int.le_refl _, h.own hp hb, hI.reserved hOK hn h0 c1 c2 hu hd hk hl⟩
set_option maxHeartbeats 400000 in
theorem Lw.One (h : Lw w bs K H W) (A : Option Addr) (cap : Nat) (ss : List ByteArray) (hA : StrsW W A ss) (hne : ∀ b off, A = some ⟨b, off, none⟩ → b ≠ bs)
    (h0 : 0 < ss.length) (hl : ss.length ≤ 1000000) (hK : K ≤ 1099511627776) :
    Calls Tryd.prog 11 #[.pointer (some ⟨bs, 0, none⟩), .slice A ss.length cap] W fun e W' =>
      ∃ s : ByteArray, e = .returned (.string s) ∧ s ∈ ss ∧ Lw w bs (K + 1) H W' ∧ W.grownBy W' (some bs) ∧ W'.heap.size = W.heap.size := by
  have HC := Lib.hid (h.one A cap ss hA hne h0 hl hK)
  clear h hA hne
  go_enter Tryd.func11, Tryd.ntmps11
  go_wp2_with fail
  refine HC.out.mono ?_
  rintro e W' ⟨s, rfl, hs, L, g, hz⟩
  have HS := Lib.hid hs
  have HG := Lib.hid g
  have HL := Lib.hid L
  have HZ := Lib.hid hz
  clear hs g L hz HC
  go_wp2_with fail
  go_ret
  exact ⟨_, rfl, HS.out, HL.out, HG.out, HZ.out⟩
end
theorem commit1 : ∀ s : Int, (fun s : Int => s == 1) s = true → s = 1 := fun s h => by simpa using h
set_option maxHeartbeats 8000000 in
set_option maxRecDepth 100000 in
theorem pursesHold_walk (a0 : Option Addr) (len0 cap0 : Nat) (z0 : List Int) (w : World) (w0 : IsRow .i64 w a0 len0 cap0 z0) :
    Calls Tryd.prog 4 #[.slice a0 len0 cap0] w fun e w' => e = .returned (.bool true) ∧ Below w.heap.size w w' := by
  have L := Lw.new w0
  go_enter Tryd.func4, Tryd.ntmps4
  go_wp2_with fail
  refine (L.budgets (by omega)).mono ?_
  rintro e W1 ⟨v, H1, ds, rfl, le1, C, hdl, hkb⟩
  obtain ⟨A, cap, H2, hv, hlec, q1, q2, hR, q3, -⟩ := C.row.freeze H1
  subst hv
  have hin := q1 C.lw.fin
  have hap : H2 w.heap.size = none := by rw [q3 _ C.2.2.2.1]; exact C.lw.apart
  have L2 : Lw w w.heap.size 40 H2 W1 := ⟨C.lw.st, C.lw.bel, C.lw.le, hin, hap⟩
  have HL2 := Lib.hid L2
  have HR := Lib.hid hR
  have hsz : ∀ d ∈ ds, d.key.size ≤ 1000000 := fun d hd => Nat.le_trans (hkb d hd).1 (by omega)
  have HSZ := Lib.hid hsz
  have hl6 : ds.length ≤ 1000000 := by omega
  clear L C q1 q2 q3 hR hin le1 hkb hsz L2 hap w0
  go_wp2_with fail
  refine (newPurse_any H2 A cap ds W1 HL2.out.fin HR.out HSZ.out hl6 hlec).mono ?_
  rintro e W2 ⟨hb2, ⟨n, hn0, rfl, hno⟩ | ⟨hOK, g, H3, rfl, hg, le3, heq, hPS⟩⟩
  · have hn1 : (n != 0) = true := by simpa using hn0
    have HL3 := Lib.hid (HL2.out.call hb2)
    have HNO := Lib.hid hno
    clear hn0 hb2 hno
    go_wp2_with fail
    refine (offers_any _).mono ?_
    rintro e w' ⟨rfl, rfl⟩
    go_wp2_with fail
    refine (budgetsFault_any H2 A cap ds W2 HL3.out.fin HR.out HSZ.out hl6 hlec).mono ?_
    rintro e W3 ⟨k, rfl, hk, hb3⟩
    have hk1 : (k != 0) = true := by
      simp
      exact fun c => HNO.out (hk.1 c)
    have HL4 := Lib.hid (HL3.out.call hb3)
    clear hk hb3
    go_wp2_with fail
    go_ret
    exact ⟨rfl, HL4.out.bel⟩
  · have LP0 : LP w w.heap.size 40 H3 W2 g ds [] 0 := by
      have h1 := HL2.out.call hb2
      exact ⟨⟨h1.st, h1.bel, h1.le, hPS.fin, by rw [heq _ HL2.out.lt]; exact HL2.out.apart⟩, hPS, Nat.lt_of_lt_of_le HL2.out.lt hg⟩
    have HP0 := Lib.hid LP0
    have HR3 := Lib.hid (HR.out.le le3)
    have HOK := Lib.hid hOK
    have hI0 := Lib.hid (PInv.nil hOK)
    have HLIM : Hid (∀ d ∈ ds, limB d = true) := by
      intro d hd
      obtain ⟨i, hi, rfl⟩ := List.getElem_of_mem hd
      exact (hOK.2 i hi).2.2
    clear hb2 hOK hg heq hPS LP0 le3 HR
    go_wp2_with fail
    refine (HP0.out.lw.next' 20 (by omega) (by omega) (by omega)).mono ?_
    rintro e W3 ⟨r, rfl, r0, r1, L3, g3, -⟩
    have HP1 := Lib.hid (HP0.out.asked L3 g3)
    obtain ⟨r, rfl⟩ := Int.eq_ofNat_of_zero_le r0
    clear L3 g3 HP0 HL2
    go_wp2_with fail
    go_loopw [7, 36] (fun a t wr => ∃ (i : Nat) (at_ : Int), i ≤ r ∧ t = .int .i64 i ∧ a = .int .i64 at_ ∧ 0 ≤ at_ ∧ at_ ≤ 1440 * i ∧ Hid (Left' w w.heap.size (41 + 5 * i) H3 wr g ds at_)) (fun _ t _ => r - (intOf t).toNat)
    case atStart => exact ⟨0, 0, by omega, rfl, rfl, by omega, by omega, ⟨[], 0, Int.le_refl _, HP1.out, hI0.out⟩⟩
    case round =>
      obtain ⟨i, at_, hi, rfl, rfl, a0', a1', hst⟩ := hrel
      clear HP1 hI0
      by_cases hlt : i < r
      · obtain ⟨hs, now, hn, hLP, hI⟩ := hst.out
        have HLP := Lib.hid hLP
        have HI := Lib.hid hI
        clear hLP hI hst
        have hIn : Ints (wr.alloc (.cells #[.int .i64 0, .int .i64 0, .int .i64 5, .int .i64 60, .int .i64 1440] 3)) (some ⟨wr.heap.size, 0, none⟩) [0, 0, 5, 60, 1440] := Ints.of_row (heap_at rfl) rfl
        have HIn := Lib.hid hIn
        have hne := HLP.out.lw.lt
        clear hIn
        go_wp2_with fail
        refine ((HLP.out.alloc _).lw.pick _ _ [0, 0, 5, 60, 1440] HIn.out (fun b off e => by injection e with e; injection e with e1 e2; omega) (by simp) (by simp) (by omega)).mono ?_
        rintro e W4 ⟨st, rfl, hst, L4, g4, -⟩
        have HP4 := Lib.hid ((HLP.out.alloc _).asked L4 g4)
        have hst2 : 0 ≤ st ∧ st ≤ 1440 := by simp at hst; omega
        clear L4 g4 HLP HIn hst hne
        go_wp2_with fail
        refine (HP4.out.lw.next' 4 (by omega) (by omega) (by omega)).mono ?_
        rintro e W5 ⟨sw, rfl, s0, s1, L5, g5, -⟩
        have HP5 := Lib.hid (HP4.out.asked L5 g5)
        clear L5 g5 HP4
        generalize han : at_ + st = an at *
        have hb1 : 0 ≤ an := by omega
        have hb2 : an ≤ 1440 * (i + 1) := by omega
        have hb3 : an ≤ 30000 := by omega
        have hnn : now ≤ an := by omega
        clear han hst2 hn a0' a1'
        have hne := HP5.out.lw.lt
        go_upto_block 2 with (fail)
        go_cut [59] (fun s59 wx => Hid (Left' w w.heap.size (41 + 5 * (i + 1)) H3 wx g ds an))
        case first =>
          have hcs : sw = 0 ∨ sw = 1 ∨ (¬ sw = 0 ∧ ¬ sw = 1) := by omega
          rcases hcs with rfl | rfl | ⟨h0, h1⟩
          · go_wp2_with fail
            refine (HP5.out.lw.range 1 6 (by omega) (by omega) (by omega) (by omega)).mono ?_
            rintro e W6 ⟨no, rfl, n0, n1, L6, g6, -⟩
            have HP6 := Lib.hid (HP5.out.asked L6 g6)
            clear L6 g6 HP5
            go_wp2_with fail
            refine (commit_any H3 g ds hs now W6 HP6.out.ps no an n0 (by omega) hb1 (by omega) hnn).mono ?_
            rintro e W7 ⟨⟨rr, rfl⟩, ht⟩
            have HT := Lib.hid ((HP6.out.turn HI.out hnn (Or.inl ⟨rfl, commit1⟩) ht).more (K' := 41 + 5 * (i + 1)) (by omega))
            clear ht HP6
            go_wp2_with fail
            go_meet
            exact HT
          · go_wp2_with fail
            refine (HP5.out.lw.range 1 6 (by omega) (by omega) (by omega) (by omega)).mono ?_
            rintro e W6 ⟨no, rfl, n0, n1, L6, g6, -⟩
            have HP6 := Lib.hid (HP5.out.asked L6 g6)
            clear L6 g6 HP5
            go_wp2_with fail
            refine (release_any H3 g ds hs now W6 HP6.out.ps no an n0 (by omega) hb1 (by omega) hnn).mono ?_
            rintro e W7 ⟨⟨rr, rfl⟩, ht⟩
            have HT := Lib.hid ((HP6.out.turn HI.out hnn (Or.inr rfl) ht).more (K' := 41 + 5 * (i + 1)) (by omega))
            clear ht HP6
            go_wp2_with fail
            go_meet
            exact HT
          · have e0 : (sw == 0) = false := by simp; exact h0
            have e1 : (sw == 1) = false := by simp; exact h1
            have hS : StrsW (W5.alloc (.cells #[.string ⟨#[109, 97, 121]⟩, .string ⟨#[106, 117, 110, 101]⟩, .string ⟨#[97, 108, 108]⟩] 9)) (some ⟨W5.heap.size, 0, none⟩) [⟨#[109, 97, 121]⟩, ⟨#[106, 117, 110, 101]⟩, ⟨#[97, 108, 108]⟩] := StrsW.of_row (heap_at rfl) rfl
            have HS := Lib.hid hS
            clear hS h0 h1
            go_wp2_with fail
            refine ((HP5.out.alloc _).lw.One _ _ [⟨#[109, 97, 121]⟩, ⟨#[106, 117, 110, 101]⟩, ⟨#[97, 108, 108]⟩] HS.out (fun b off e => by injection e with e; injection e with e1 e2; omega) (by simp) (by simp) (by omega)).mono ?_
            rintro e W6 ⟨key, rfl, -, L6, g6, -⟩
            have HP6 := Lib.hid ((HP5.out.alloc _).asked L6 g6)
            clear L6 g6 HP5 HS hne
            have hne := HP6.out.lw.lt
            have hIn : Ints (W6.alloc (.cells #[.int .i64 1, .int .i64 50, .int .i64 100, .int .i64 400] 3)) (some ⟨W6.heap.size, 0, none⟩) [1, 50, 100, 400] := Ints.of_row (heap_at rfl) rfl
            have HIn := Lib.hid hIn
            clear hIn
            go_wp2_with fail
            refine ((HP6.out.alloc _).lw.pick _ _ [1, 50, 100, 400] HIn.out (fun b off e => by injection e with e; injection e with e1 e2; omega) (by simp) (by simp) (by omega)).mono ?_
            rintro e W7 ⟨ce, rfl, hce, L7, g7, -⟩
            have HP7 := Lib.hid ((HP6.out.alloc _).asked L7 g7)
            have hce2 : 1 ≤ ce ∧ ce ≤ 400 := by simp at hce; omega
            clear L7 g7 HP6 HIn hne hce
            have hne := HP7.out.lw.lt
            have hIn : Ints (W7.alloc (.cells #[.int .i64 1, .int .i64 5, .int .i64 60, .int .i64 2000] 3)) (some ⟨W7.heap.size, 0, none⟩) [1, 5, 60, 2000] := Ints.of_row (heap_at rfl) rfl
            have HIn := Lib.hid hIn
            clear hIn
            go_wp2_with fail
            refine ((HP7.out.alloc _).lw.pick _ _ [1, 5, 60, 2000] HIn.out (fun b off e => by injection e with e; injection e with e1 e2; omega) (by simp) (by simp) (by omega)).mono ?_
            rintro e W8 ⟨un, rfl, hun, L8, g8, -⟩
            have HP8 := Lib.hid ((HP7.out.alloc _).asked L8 g8)
            have hun2 : 1 ≤ un ∧ un ≤ 2000 := by simp at hun; omega
            clear L8 g8 HP7 HIn hne hun
            go_wp2_with fail
            refine (reserve_any H3 g ds hs now W8 HP8.out.ps HI.out.cb HLIM.out key ce an (an + un) (by omega) (by omega) hb1 (by omega) (by omega) (by omega) hnn).mono ?_
            rintro e W9 ⟨⟨rr, rfl⟩, ht⟩
            have HT := Lib.hid ((HP8.out.reserve HI.out HOK.out hnn hb1 (by omega) (by omega) (by omega) ht).more (K' := 41 + 5 * (i + 1)) (by omega))
            clear ht HP8
            go_wp2_with fail
            go_meet
            exact HT
        case rest =>
          obtain ⟨hs, now, hn, hLP, hI⟩ := hcut.out
          obtain ⟨H4, le4, hin4, hPF⟩ := hLP.ps.freeze
          have HLP := Lib.hid hLP
          have HI2 := Lib.hid hI
          have HIN4 := Lib.hid hin4
          have HPF := Lib.hid hPF
          have HR4 := Lib.hid (HR3.out.le le4)
          have hsl : hs.length ≤ 2000 := hLP.ps.l2
          clear hLP hI hin4 hPF le4 hcut HI HP5 hne hnn
          go_wp2_with fail
          go_loopw [75] (fun t wr => ∃ j : Nat, j ≤ ds.length ∧ t = .int .i64 j ∧ Hid (Below wc.heap.size wc wr)) (fun t _ => ds.length - (intOf t).toNat)
          case atStart => exact ⟨0, by omega, rfl, Below.refl _ _⟩
          case round =>
            obtain ⟨j, hj, rfl, hbw⟩ := hrel
            by_cases hltj : j < ds.length
            · have hin5 := HIN4.out.below hbw.out
              obtain ⟨b, off, hA, hbl, hc⟩ := HR4.out.at_ hin5 hltj (by omega)
              subst hA
              have c0 : wr.cell? ⟨b, off + j * 5, none⟩ = some (.string ds[j].key) := hc 0 (by omega)
              have c1 : wr.cell? ⟨b, off + j * 5 + 1, none⟩ = some (.int .i64 ds[j].cents) := hc 1 (by omega)
              have c2 : wr.cell? ⟨b, off + j * 5 + 2, none⟩ = some (.int .i64 ds[j].first) := hc 2 (by omega)
              have c3 : wr.cell? ⟨b, off + j * 5 + 3, none⟩ = some (.int .i64 ds[j].last) := hc 3 (by omega)
              have c4 : wr.cell? ⟨b, off + j * 5 + 4, none⟩ = some (.bool ds[j].pace) := hc 4 (by omega)
              have hdm := Lib.hid (List.getElem_mem hltj)
              generalize ds[j] = d at c0 c1 c2 c3 c4 hdm
              obtain ⟨H5, le5, hbx, hin6⟩ := hin5.put (.cells #[.string d.key, .int .i64 d.cents, .int .i64 d.first, .int .i64 d.last, .bool d.pace] 59)
              have HB5 := Lib.hid (hbw.out.alloc hbw.out.size (.cells #[.string d.key, .int .i64 d.cents, .int .i64 d.first, .int .i64 d.last, .bool d.pace] 59))
              have HPF5 : Hid (PF H5 g ds hs now) := by
                obtain ⟨A, cap, Ah, caph, hg, r1, r2, r3⟩ := HPF.out
                exact ⟨A, cap, Ah, caph, le5 _ _ hg, r1.le le5, r2.le le5, r3⟩
              have HBX := Lib.hid hbx
              have HIN6 := Lib.hid hin6
              clear hc hin5 le5 hbx hin6
              obtain ⟨wo, rfl⟩ : ∃ wo : World, wo = wr := ⟨_, rfl⟩
              go_wp2_with fail
              clear c0 c1 c2 c3 c4
              generalize wo.heap.size = qb at *
              generalize wo.alloc _ = W6 at HB5 HIN6
              refine (holds_any H5 g ds hs now HPF5.out W6 HIN6.out).mono ?_
              rintro e W7 ⟨⟨v, rfl, hO⟩, hb7⟩
              obtain ⟨Ax, capx, H6, hv, hcx, q1, q2, hRx, q3, -⟩ := hO.freeze H5
              subst hv
              have hin7 := q1 (HIN6.out.below hb7)
              have le6 := q2 (fun q hq => HIN6.out.none_ (hO.lt hq).1)
              have HPF6 : Hid (PF H6 g ds hs now) := by
                obtain ⟨A, cap, Ah, caph, hg, r1, r2, r3⟩ := HPF5.out
                exact ⟨A, cap, Ah, caph, le6 _ _ hg, r1.le le6, r2.le le6, r3⟩
              have HBX6 := Lib.hid (le6 _ _ HBX.out)
              have HRX := Lib.hid hRx
              have HIN7 := Lib.hid hin7
              have HB7 := Lib.hid (HB5.out.trans (hb7.mono HB5.out.size))
              have hxl : (hs.map (stH now)).length = hs.length := by simp
              have HCX := Lib.hid (stH_cb (now := now) HI2.out.cb)
              have HALL := Lib.hid (stSum_all hs d.key now)
              have HTK := Lib.hid (HI2.out.tk d hdm.out)
              rw [hxl]
              rw [hxl] at hcx
              generalize hs.map (stH now) = xs at *
              clear hO hb7 q1 q2 q3 hRx hin7 le6 HPF5 HBX HIN6 HB5
              go_wp2_with fail
              go_loopw [10, 11, 82] (fun a c t wr => ∃ k : Nat, k ≤ hs.length ∧ a = .int .i64 (stSum d.key 1 (xs.take k)) ∧ c = .int .i64 (stSum d.key 2 (xs.take k)) ∧ t = .int .i64 k ∧ Hid (Below W7.heap.size W7 wr)) (fun _ _ t _ => hs.length - (intOf t).toNat)
              case atStart => exact ⟨0, by omega, rfl, rfl, rfl, Below.refl _ _⟩
              case round =>
                obtain ⟨k, hk, rfl, rfl, rfl, hb8⟩ := hrel
                have hin8 := HIN7.out.below hb8.out
                by_cases hltk : k < hs.length
                · have hkx : k < xs.length := by omega
                  obtain ⟨bx, ox, hA, hblx, hc⟩ := HRX.out.at_ hin8 hkx (by omega)
                  subst hA
                  have c0 : wr.cell? ⟨bx, ox + k * 6, none⟩ = some (.int .i64 xs[k].no) := hc 0 (by omega)
                  have c1 : wr.cell? ⟨bx, ox + k * 6 + 1, none⟩ = some (.string xs[k].key) := hc 1 (by omega)
                  have c2 : wr.cell? ⟨bx, ox + k * 6 + 2, none⟩ = some (.int .i64 xs[k].cents) := hc 2 (by omega)
                  have c3 : wr.cell? ⟨bx, ox + k * 6 + 3, none⟩ = some (.int .i64 xs[k].at_) := hc 3 (by omega)
                  have c4 : wr.cell? ⟨bx, ox + k * 6 + 4, none⟩ = some (.int .i64 xs[k].until_) := hc 4 (by omega)
                  have c5 : wr.cell? ⟨bx, ox + k * 6 + 5, none⟩ = some (.int .i64 xs[k].state) := hc 5 (by omega)
                  have hs1 := Lib.hid (stSum_succ xs d.key 1 k hkx)
                  have hs2 := Lib.hid (stSum_succ xs d.key 2 k hkx)
                  have hbd1 := stSum_bd (xs.take k) d.key 1 (fun h hm => HCX.out h (List.mem_of_mem_take hm))
                  have hbd2 := stSum_bd (xs.take k) d.key 2 (fun h hm => HCX.out h (List.mem_of_mem_take hm))
                  have hlen : (xs.take k).length = k := by simp; omega
                  rw [hlen] at hbd1 hbd2
                  have hcb := HCX.out _ (List.getElem_mem hkx)
                  obtain ⟨y0, y1, y2, y3, y4⟩ := frz5 (hin8.alloc (.cells #[.int .i64 xs[k].no, .string xs[k].key, .int .i64 xs[k].cents, .int .i64 xs[k].at_, .int .i64 xs[k].until_, .int .i64 xs[k].state] 63)) HBX6.out
                  have HB9 := Lib.hid (hb8.out.alloc hb8.out.size (.cells #[.int .i64 xs[k].no, .string xs[k].key, .int .i64 xs[k].cents, .int .i64 xs[k].at_, .int .i64 xs[k].until_, .int .i64 xs[k].state] 63))
                  have hqb : qb < wr.heap.size := hin8.lt HBX6.out
                  generalize xs[k] = x at c0 c1 c2 c3 c4 c5 hs1 hs2 hcb y0 y1 y2 y3 y4 HB9
                  generalize stSum d.key 1 (xs.take k) = t1 at hs1 hbd1
                  generalize stSum d.key 2 (xs.take k) = t2 at hs2 hbd2
                  generalize ht1 : stSum d.key 1 (xs.take (k + 1)) = t1' at hs1
                  generalize ht2 : stSum d.key 2 (xs.take (k + 1)) = t2' at hs2
                  have HT1 := Lib.hid ht1
                  have HT2 := Lib.hid ht2
                  clear ht1 ht2 hc hlen hin8
                  by_cases e1 : (x.key.toList == d.key.toList) = true
                  · by_cases e2 : x.state = 2
                    · have f2 : (x.state == 2) = true := by simp [e2]
                      have f1 : (x.state == 1) = false := by simp [e2]
                      have hv1 : Hid (t1' = t1) := by show _ = _; rw [hs1.out]; simp [stV, e1, e2]
                      have hv2 : Hid (t2' = t2 + x.cents) := by show _ = _; rw [hs2.out]; simp [stV, e1, e2]
                      clear hs1 hs2 e2
                      go_wp2_with fail
                      go_roundw
                      case rel => exact ⟨k + 1, by omega, by rw [HT1.out, hv1.out], by rw [HT2.out, hv2.out], by go_num, HB9⟩
                      case measure => simp [intOf]; omega
                    · have f2 : (x.state == 2) = false := by simp [e2]
                      by_cases e3 : x.state = 1
                      · have f1 : (x.state == 1) = true := by simp [e3]
                        have hv1 : Hid (t1' = t1 + x.cents) := by show _ = _; rw [hs1.out]; simp [stV, e1, e3]
                        have hv2 : Hid (t2' = t2) := by show _ = _; rw [hs2.out]; simp [stV, e1, e3]
                        clear hs1 hs2 e2 e3
                        go_wp2_with fail
                        go_roundw
                        case rel => exact ⟨k + 1, by omega, by rw [HT1.out, hv1.out], by rw [HT2.out, hv2.out], by go_num, HB9⟩
                        case measure => simp [intOf]; omega
                      · have f1 : (x.state == 1) = false := by simp [e3]
                        have hv1 : Hid (t1' = t1) := by show _ = _; rw [hs1.out]; simp [stV, e1, e2, e3]
                        have hv2 : Hid (t2' = t2) := by show _ = _; rw [hs2.out]; simp [stV, e1, e2, e3]
                        clear hs1 hs2 e2 e3
                        go_wp2_with fail
                        go_roundw
                        case rel => exact ⟨k + 1, by omega, by rw [HT1.out, hv1.out], by rw [HT2.out, hv2.out], by go_num, HB9⟩
                        case measure => simp [intOf]; omega
                  · have f0 : (x.key.toList == d.key.toList) = false := by simpa using e1
                    have hv1 : Hid (t1' = t1) := by show _ = _; rw [hs1.out]; simp [stV, f0]
                    have hv2 : Hid (t2' = t2) := by show _ = _; rw [hs2.out]; simp [stV, f0]
                    clear hs1 hs2 e1
                    go_wp2_with fail
                    go_roundw
                    case rel => exact ⟨k + 1, by omega, by rw [HT1.out, hv1.out], by rw [HT2.out, hv2.out], by go_num, HB9⟩
                    case measure => simp [intOf]; omega
                · have hke : k = xs.length := by omega
                  have hke2 : k = hs.length := by omega
                  subst hke2
                  rw [show xs.take hs.length = xs from by rw [← hxl]; simp]
                  have hbd1 := stSum_bd xs d.key 1 HCX.out
                  have hbd2 := stSum_bd xs d.key 2 HCX.out
                  have hsum : stSum d.key 1 xs + stSum d.key 2 xs ≤ d.cents := by rw [HALL.out]; exact HTK.out
                  have HBX7 := Lib.hid HBX6.out
                  have HIN8 := Lib.hid hin8
                  obtain ⟨y0, y1, y2, y3, y4⟩ := frz5 hin8 HBX6.out
                  generalize stSum d.key 1 xs = t1 at *
                  generalize stSum d.key 2 xs = t2 at *
                  clear hin8 hke
                  go_wp2_with fail
                  clear y0 y1 y2 y3 y4
                  refine (left_any H6 g ds hs now HPF6.out HI2.out.cb HLIM.out d.key ⟨d, hdm.out, by simp [sameKey]⟩ an hb1 (by omega) hn _ HIN8.out).mono ?_
                  rintro e W9 ⟨⟨mm, hm0, rfl⟩, hb9⟩
                  have hin9 := HIN8.out.below hb9
                  obtain ⟨y0, y1, y2, y3, y4⟩ := frz5 hin9 HBX6.out
                  have HB9 := Lib.hid (HB7.out.trans ((hb8.out.trans (hb9.mono hb8.out.size)).mono HB7.out.size))
                  have k1 : t2 ≤ d.cents := by omega
                  have k2 : t1 + t2 ≤ d.cents := by omega
                  clear hb9 hin9
                  go_wp2_with fail
                  go_roundw
                  case rel => exact ⟨j + 1, by omega, by go_num, HB9⟩
                  case measure => simp [intOf]; omega
            · have hie : j = ds.length := by omega
              subst hie
              go_wp2_with fail
              go_roundw
              case rel => exact ⟨i + 1, an, by omega, by go_num, rfl, hb1, by omega, ⟨hs, now, hn, HLP.out.call hbw.out, HI2.out⟩⟩
              case measure => simp [intOf]; omega
      · go_wp2_with fail
        refine (offers_any _).mono ?_
        rintro e w' ⟨rfl, rfl⟩
        obtain ⟨_, _, _, hLP, _⟩ := hst.out
        have HB := Lib.hid hLP.lw.bel
        clear hLP hst
        go_wp2_with fail
        go_ret
        exact ⟨rfl, HB.out⟩
end Go.Proofs.YtecbejmeejepmaaDoor
