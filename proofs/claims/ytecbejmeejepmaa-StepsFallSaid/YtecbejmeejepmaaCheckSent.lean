/- CheckSent: the first thing that is wrong with letters that were sent. -/
import Derived.Test.YtecbejmeejepmaaStepsP
import Derived.Test.YtecbejmeejepmaaRow
import Derived.Carry
import Derived.Deep.Cut
import Derived.StillTailTactics
namespace Go.Proofs.Ytecbejmeejepmaa
set_option linter.unusedVariables false
open Go.RowKit

theorem frz4 {H : Frz} {w : World} (h : H.In w) {g : Nat} {x0 x1 x2 x3 : Value} {T : TypeId} (e : H g = some (.cells #[x0, x1, x2, x3] T (0, 0))) :
    w.cell? ⟨g, 0, none⟩ = some x0 ∧ w.cell? ⟨g, 1, none⟩ = some x1 ∧ w.cell? ⟨g, 2, none⟩ = some x2 ∧ w.cell? ⟨g, 3, none⟩ = some x3 := by
  have := h _ _ e
  simp [World.cell?, this]
theorem Frz.In.put {H : Frz} {w : World} (h : H.In w) (o : Obj) : ∃ H', H.Le H' ∧ H' w.heap.size = some o ∧ H'.In (w.alloc o) :=
  ⟨H.add w.heap.size o, Frz.le_add (h.none_ (Nat.le_refl _)), Frz.add_at _ _ _, (h.alloc o).add (heap_at rfl)⟩
theorem zeroBool (w : World) : (zeroValue 4).run Try.prog w = .ok (.bool false) w := by kernel_rfl
set_option maxHeartbeats 400000 in
theorem mwithin_any (n l h : Int) (w : World) : Calls Try.prog 18 #[.int .i64 n, .int .i64 l, .int .i64 h] w fun e w' => e = .returned (.bool (decide (l ≤ n) && decide (n ≤ h))) ∧ w = w' := by
  by_cases h1 : l ≤ n
  · go_enter Try.func18, Try.ntmps18
    go_wp2
    go_ret
    exact ⟨by simp [h1], rfl⟩
  · go_enter Try.func18, Try.ntmps18
    go_wp2
    go_ret
    exact ⟨by simp; omega, rfl⟩
set_option maxHeartbeats 400000 in
theorem mMoment_any (n : Int) (w : World) : Calls Try.prog 17 #[.int .i64 n] w fun e w' => e = .returned (.bool (decide (0 ≤ n) && decide (n ≤ 4321439))) ∧ w = w' := by
  go_enter Try.func17, Try.ntmps17
  go_wp2_with fail
  refine (mwithin_any _ _ _ _).mono ?_
  rintro e w' ⟨rfl, rfl⟩
  generalize hq : (decide (0 ≤ n) && decide (n ≤ 4321439)) = q
  have HQ := Lib.hid hq
  clear hq
  go_wp2_with fail
  go_ret
  exact ⟨ret_bool' HQ.out.symm, rfl⟩
theorem wpList_mp_getv {P : Program} (w : World) {ops : Array Oper} {rest : List Oper} {o : Oper} {a : Act} {Q : Exit → Act → World → Prop}
    (hg : o.guard = none) (mo x : Operand) (t : TypeId) (hop : o.op = Op.lookup t mo x false)
    (k e : TypeId) (K : Maps.Keyed P k) (ht : P.underlying t = some (.map k e)) (z : Value) (hz : (zeroValue e).run P w = .ok z w) (b n : Nat) (m : Lit → Option Value)
    (hm : a.eval mo = .map (some b)) (hown : Mp P k w b n m) (key : Value) (kl : Lit) (hx : a.eval x = key) (hkey : keyOf P k key = some kl) (v : Value) (hv : (m kl).getD z = v)
    (hK : wpList P ops Q rest (a.put o.dst v) w) :
    wpList P ops Q (o :: rest) a w :=
  wpList_mp_get w hg mo x t hop k e K ht z hz b n m hm hown key kl hx hkey (by rw [hv]; exact hK)
/-- What is so at the head of the loop. -/
structure SI (ss : List SentD) (W : World) (i : Nat) (wr : World) : Prop where
  bel : Below W.heap.size W wr
  map : Mp Try.prog 9 wr W.heap.size i (seenMp (ss.take i))
  ok : ∀ j, j < i → sentAt ss j = 0
theorem SI.new (ss : List SentD) (W : World) : SI ss W 0 (W.alloc (.map #[] 0)) :=
  ⟨(Below.refl W.heap.size W).alloc (Nat.le_refl _) _, Mp.made Try.prog 9 W, fun j hj => by omega⟩
theorem SI.call {ss : List SentD} {W wr w' : World} {i : Nat} (h : SI ss W i wr) (hb : Below wr.heap.size wr w') : SI ss W i w' :=
  ⟨h.bel.trans (hb.mono h.bel.size), h.map.below hb, h.ok⟩
theorem SI.alloc {ss : List SentD} {W wr : World} {i : Nat} (h : SI ss W i wr) (o : Obj) : SI ss W i (wr.alloc o) := h.call ((Below.refl _ _).alloc (Nat.le_refl _) _)
theorem SI.put {ss : List SentD} {W wr w' : World} {i : Nat} (h : SI ss W i wr) (hi : i < ss.length) (hat : sentAt ss i = 0) (hM : Mp Try.prog 9 w' W.heap.size (i + 1) (mpSet (seenMp (ss.take i)) (codeLit ss[i].id) (.bool true))) (hg : wr.grownBy w' (some W.heap.size)) : SI ss W (i + 1) w' := by
  refine ⟨h.bel.grown hg h.bel.size (fun k hk => by injection hk with hk; omega), ?_, errStep h.ok hat⟩
  rw [seenMp_snoc] at hM
  rw [List.take_succ_eq_append_getElem hi]
  exact hM
def SzS (ss : List SentD) : Prop := ∀ s ∈ ss, s.id.size ≤ 1000 ∧ s.person.size ≤ 1000 ∧ s.letter.size ≤ 1000 ∧ -10000000 ≤ s.at_ ∧ s.at_ ≤ 10000000
set_option maxHeartbeats 4000000 in
set_option maxRecDepth 20000 in
theorem checkSent_any (H : Frz) (A : Option Addr) (cap : Nat) (ss : List SentD) (W : World) (hH : H.In W) (hR : Rw H A 4 fSe ss) (hsz : SzS ss) (hl : ss.length ≤ 5000) (hcap : ss.length ≤ cap) :
    Calls Try.prog 15 #[.slice A ss.length cap] W (ErrPost (sentAt ss) ss.length W) := by
  have HR := Lib.hid hR
  have HH := Lib.hid hH
  have HS := Lib.hid hsz
  have hmm := @run_makeMap Try.prog
  have HNEW := Lib.hid (SI.new ss W)
  have hl' : decide ((5000 : Int) < ss.length) = false := by simp; omega
  clear hR hH hsz
  go_enter Try.func15, Try.ntmps15
  go_wp2_with fail
  clear hmm
  go_loopw [12] (fun t wr => ∃ i : Nat, i ≤ ss.length ∧ t = .int .i64 i ∧ Hid (SI ss W i wr)) (fun t _ => ss.length - (intOf t).toNat)
  case atStart => exact ⟨0, by omega, rfl, HNEW⟩
  case round =>
    obtain ⟨i, hi, rfl, hinv⟩ := hrel
    clear HNEW
    by_cases hlt : i < ss.length
    · have hin := HH.out.below hinv.out.bel
      obtain ⟨b, off, hA, hbl, hc⟩ := HR.out.at_ hin hlt (by omega)
      have hprev : Hid (∀ p, i = p + 1 → ∃ pa : Int, prevAt ss i = pa ∧ ∀ W', Below wr.heap.size wr W' → W'.cell? ⟨b, off + p * 4 + 3, none⟩ = some (.int .i64 pa)) := by
        rintro p rfl
        have hp : p < ss.length := by omega
        obtain ⟨b', off', hA', hbl', hc'⟩ := HR.out.at_ hin hp (by omega)
        rw [hA] at hA'
        simp only [Option.some.injEq, Addr.mk.injEq] at hA'
        obtain ⟨rfl, rfl, _⟩ := hA'
        refine ⟨ss[p].at_, ?_, fun W' hW' => (hW'.cell (World.block_lt_of_cell? wr _ (hc' 3 (by omega)))).trans (hc' 3 (by omega))⟩
        unfold prevAt
        simp only [Nat.add_sub_cancel]
        rw [List.getElem?_eq_getElem hp]
      subst hA
      have c0 : wr.cell? ⟨b, off + i * 4, none⟩ = some (.string ss[i].id) := hc 0 (by omega)
      have c1 : wr.cell? ⟨b, off + i * 4 + 1, none⟩ = some (.string ss[i].person) := hc 1 (by omega)
      have c2 : wr.cell? ⟨b, off + i * 4 + 2, none⟩ = some (.string ss[i].letter) := hc 2 (by omega)
      have c3 : wr.cell? ⟨b, off + i * 4 + 3, none⟩ = some (.int .i64 ss[i].at_) := hc 3 (by omega)
      have hks := HS.out _ (List.getElem_mem hlt)
      have HAT := Lib.hid (sentAt_eq hlt)
      have HLATE : Hid (lateB ss i ss[i] = (decide (0 < i) && decide (ss[i].at_ < prevAt ss i))) := rfl
      have HPUT : Hid (∀ w1 w2, SI ss W i w1 → sentAt ss i = 0 → Mp Try.prog 9 w2 W.heap.size (i + 1) (mpSet (seenMp (ss.take i)) (codeLit ss[i].id) (.bool true)) → w1.grownBy w2 (some W.heap.size) → SI ss W (i + 1) w2) := fun w1 w2 h1 h2 h3 h4 => h1.put hlt h2 h3 h4
      have HGET := Lib.hid (seenMp_get (ss.take i) ss[i].id)
      clear hc
      generalize ss[i] = d at c0 c1 c2 c3 hks HAT HLATE HPUT HGET
      have HIN := Lib.hid hin
      clear hin
      obtain ⟨H2, hl2, hbx, hin2⟩ := HIN.out.put (.cells #[.string d.id, .string d.person, .string d.letter, .int .i64 d.at_] 42)
      have HI2 := Lib.hid (hinv.out.alloc (.cells #[.string d.id, .string d.person, .string d.letter, .int .i64 d.at_] 42))
      have HBA := Lib.hid ((Below.refl wr.heap.size wr).alloc (Nat.le_refl _) (.cells #[.string d.id, .string d.person, .string d.letter, .int .i64 d.at_] 42))
      have HBX := Lib.hid hbx
      have HIN2 := Lib.hid hin2
      clear hl2 hbx hin2
      go_upto_region 7 with (fail)
      clear c0 c1 c2 c3
      generalize hg : wr.heap.size = g at HBX
      generalize hW1 : wr.alloc _ = W1 at HI2 HIN2 HBA
      have HK1 := Lib.hid (strKey (s := d.id) (by omega))
      obtain ⟨z0, z1, z2, z3⟩ := frz4 HIN2.out HBX.out
      have HBAD : Hid (∀ n : Int, sentErr d ((ss.take i).any (sameId d.id)) (lateB ss i d) = n → n ≠ 0 → ErrPost (sentAt ss) ss.length W (.returned (.int .i64 n)) W1) := fun n h1 h2 => ⟨n, rfl, IsErr.bad hlt HI2.out.ok (HAT.out.trans h1) h2, HI2.out.bel⟩
      clear hg hW1
      go_wp2_with fail
      refine (isKey_any d.id W1 (by omega)).mono ?_
      rintro e w' ⟨rfl, rfl⟩
      generalize hik : isKey d.id = ik
      have HIK := Lib.hid hik
      clear hik
      cases ik with
      | false =>
        have HF := Lib.hid (HBAD.out 5 (by simp [sentErr, HIK.out]) (by omega))
        go_wp2_with fail
        go_ret
        exact HF.out
      | true =>
        generalize hdu : (ss.take i).any (sameId d.id) = du at HGET HBAD HAT
        have HDU := Lib.hid hdu
        clear hdu
        cases du with
        | true =>
          have HF := Lib.hid (HBAD.out 6 (by simp [sentErr, HIK.out]) (by omega))
          go_wp2_with (at_lookup; refine wpList_mp_getv _ rfl _ _ 66 rfl 9 4 strKeyed Try.underlying66 (.bool false) (zeroBool _) W.heap.size i (seenMp (ss.take i)) rfl HI2.out.map _ _ rfl HK1.out _ HGET.out ?_)
          go_ret
          exact HF.out
        | false =>
          go_wp2_with (at_lookup; refine wpList_mp_getv _ rfl _ _ 66 rfl 9 4 strKeyed Try.underlying66 (.bool false) (zeroBool _) W.heap.size i (seenMp (ss.take i)) rfl HI2.out.map _ _ rfl HK1.out _ HGET.out ?_)
          refine (isKey_any d.person W1 (by omega)).mono ?_
          rintro e w' ⟨rfl, rfl⟩
          generalize hik : isKey d.person = ik
          have HIK2 := Lib.hid hik
          clear hik
          cases ik with
          | false =>
            have HF := Lib.hid (HBAD.out 5 (by simp [sentErr, HIK.out, HIK2.out]) (by omega))
            go_wp2_with fail
            go_ret
            exact HF.out
          | true =>
            go_wp2_with fail
            refine (isKey_any d.letter W1 (by omega)).mono ?_
            rintro e w' ⟨rfl, rfl⟩
            generalize hik : isKey d.letter = ik
            have HIK3 := Lib.hid hik
            clear hik
            cases ik with
            | false =>
              have HF := Lib.hid (HBAD.out 5 (by simp [sentErr, HIK.out, HIK2.out, HIK3.out]) (by omega))
              go_wp2_with fail
              go_ret
              exact HF.out
            | true =>
              go_wp2_with fail
              refine (mMoment_any d.at_ W1).mono ?_
              rintro e w' ⟨rfl, rfl⟩
              by_cases hm : 0 ≤ d.at_ ∧ d.at_ ≤ 4321439
              · have hmm : (decide (0 ≤ d.at_) && decide (d.at_ ≤ 4321439)) = true := by simp; omega
                rw [hmm]
                clear hmm
                have HERR : Hid (sentErr d false (lateB ss i d) = if lateB ss i d = true then 7 else 0) := by
                  show _ = _
                  simp [sentErr, HIK.out, HIK2.out, HIK3.out, hm]
                have HLT : Hid (i < maxLen) := by show _ < _; unfold maxLen; omega
                rcases Nat.eq_zero_or_pos i with h0 | hpos
                · have d1 : decide (0 < i) = false := by simp; omega
                  have d2 : decide ((0 : Int) < (i : Int)) = false := by simp; omega
                  have HOK : Hid (sentAt ss i = 0) := by
                    show _ = _
                    rw [HAT.out, HERR.out, HLATE.out, d1]
                    simp
                  clear h0 hm
                  go_upto_region 15 with (fail)
                  go_quiet (fail)
                  have HI3 := Lib.hid (HI2.out.call (below_drewN (Below.refl _ _) nq))
                  have y0 : (W1.drewN nq).cell? ⟨g, 0, none⟩ = some (.string d.id) := z0
                  generalize W1.drewN nq = W3 at HI3 y0
                  clear z0 z1 z2 z3
                  go_wp2_with (at_mapUpdate; refine wpList_mp_set _ rfl _ _ _ 66 rfl 9 4 strKeyed Try.underlying66 W.heap.size i (seenMp (ss.take i)) rfl HI3.out.map HLT.out _ _ _ rfl rfl HK1.out ?_; intro w5 hM5 hg5 hz5; have HI5 := Lib.hid (HPUT.out _ _ HI3.out HOK.out hM5 hg5); clear hM5 hg5 hz5)
                  go_roundw
                  case rel => exact ⟨i + 1, by omega, by go_num, HI5⟩
                  case measure => simp [intOf]; omega
                · obtain ⟨p, hp⟩ : ∃ p, i = p + 1 := ⟨i - 1, by omega⟩
                  obtain ⟨pa, hpa, hcell⟩ := hprev.out p hp
                  have q3 := hcell W1 HBA.out
                  have d1 : decide (0 < i) = true := by simp; omega
                  have d2 : decide ((0 : Int) < (i : Int)) = true := by simp; omega
                  have a1 : IntKind.i64.wrap ((i : Int) - 1) = (p : Int) := by rw [show (i : Int) - 1 = p from by omega]; exact IntWalk.i64_in _ (by omega)
                  have a2 : (i : Int) - 1 = (p : Int) := by omega
                  have a3 : (p : Int) < ss.length := by omega
                  have a4 : (0 : Int) ≤ (p : Int) := by omega
                  have a5 : p < ss.length := by omega
                  have HLT2 : Hid (lateB ss i d = decide (d.at_ < pa)) := by
                    show _ = _
                    rw [HLATE.out, d1, hpa]; simp
                  clear hm hcell hpa hp hpos
                  by_cases hla : d.at_ < pa
                  · have e1 : decide (d.at_ < pa) = true := by simpa using hla
                    have HF := Lib.hid (HBAD.out 7 (by rw [HERR.out, HLT2.out, e1]; simp) (by omega))
                    clear hla
                    go_upto_region 15 with (fail)
                    go_quiet (fail)
                    have HF2 : Hid (ErrPost (sentAt ss) ss.length W (.returned (.int .i64 7)) (W1.drewN nq)) := by
                      obtain ⟨k, he, h1, h2⟩ := HF.out
                      exact ⟨k, he, h1, below_drewN h2 nq⟩
                    clear HF
                    go_wp2_with fail
                    go_ret
                    exact HF2.out
                  · have e1 : decide (d.at_ < pa) = false := by simpa using hla
                    have HOK : Hid (sentAt ss i = 0) := by
                      show _ = _
                      rw [HAT.out, HERR.out, HLT2.out, e1]
                      simp
                    clear hla
                    go_upto_region 15 with (fail)
                    go_quiet (fail)
                    have HI3 := Lib.hid (HI2.out.call (below_drewN (Below.refl _ _) nq))
                    have y0 : (W1.drewN nq).cell? ⟨g, 0, none⟩ = some (.string d.id) := z0
                    generalize W1.drewN nq = W3 at HI3 y0
                    clear z0 z1 z2 z3
                    go_wp2_with (at_mapUpdate; refine wpList_mp_set _ rfl _ _ _ 66 rfl 9 4 strKeyed Try.underlying66 W.heap.size i (seenMp (ss.take i)) rfl HI3.out.map HLT.out _ _ _ rfl rfl HK1.out ?_; intro w5 hM5 hg5 hz5; have HI5 := Lib.hid (HPUT.out _ _ HI3.out HOK.out hM5 hg5); clear hM5 hg5 hz5)
                    go_roundw
                    case rel => exact ⟨i + 1, by omega, by go_num, HI5⟩
                    case measure => simp [intOf]; omega
              · have hmm : (decide (0 ≤ d.at_) && decide (d.at_ ≤ 4321439)) = false := by simp; omega
                rw [hmm]
                have HF := Lib.hid (HBAD.out 1 (by simp only [sentErr, HIK.out, HIK2.out, HIK3.out]; simp; omega) (by omega))
                clear hmm hm
                go_wp2_with fail
                go_ret
                exact HF.out
    · have hie : i = ss.length := by omega
      subst hie
      have HF : Hid (ErrPost (sentAt ss) ss.length W (.returned (.int .i64 0)) wr) := ⟨0, rfl, IsErr.good hinv.out.ok, hinv.out.bel⟩
      go_wp2_with fail
      go_ret
      exact HF.out
end Go.Proofs.Ytecbejmeejepmaa
