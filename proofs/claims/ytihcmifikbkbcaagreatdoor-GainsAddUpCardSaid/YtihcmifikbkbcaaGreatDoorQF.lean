/- Texts of this claim, put together: Attr, Measures. -/
import Derived.Test.YtihcmifikbkbcaaGreatDoorQE
import Derived.Test.YtihcmifikbkbcaaGreatDoorQB
import Derived.LoopTactic
/- Gains given to letters. -/
namespace Go.Proofs.YtihcmifikbkbcaaGreatDoor
set_option linter.unusedVariables false
open Go.RowKit
set_option maxHeartbeats 400000 in
theorem checkWays_any (how span : Int) (w : World) (h1 : 1 ≤ how) (h6 : how ≤ 6) (hs1 : 1 ≤ span) (hs : span ≤ 4321440) : Calls Tryz.prog 18 #[.int .i64 how, .int .i64 span] w fun e w' => e = .returned (.int .i64 0) ∧ w' = w := by
  have k1 : (decide (1 ≤ how) && decide (how ≤ 6)) = true := by simp; omega
  have k2 : (decide (1 ≤ span) && decide (span ≤ 4321440)) = true := by simp; omega
  go_enter Tryz.func18, Tryz.ntmps18
  go_wp2_with fail
  refine (mwithin_any _ _ _ _).mono ?_
  rintro e w' ⟨rfl, rfl⟩
  rw [k1]
  go_wp2_with fail
  refine (mwithin_any _ _ _ _).mono ?_
  rintro e w' ⟨rfl, rfl⟩
  rw [k2]
  go_wp2_with fail
  go_ret
  exact ⟨rfl, rfl⟩
def fCr (d : CrD) : Nat → Value
  | 0 => .string ⟨d.k.toArray⟩
  | 1 => .int .i64 (d.gains : Nat)
  | _ => .int .i64 (d.cents : Nat)
theorem infoCr : (Tryz.prog.info? 42).map (fun i => (i.zero, i.size, i.bytes)) = some (some (.agg #[.string ⟨#[]⟩, .int .i64 0, .int .i64 0]), 3, 32) := by kernel_rfl
/-- The credit of a letter. -/
def crOf (cs : List CrD) (k : List UInt8) : CrD := (cs.find? fun c => c.k == k).getD ⟨k, 0, 0, 0⟩
theorem crOf_mem {cs : List CrD} {k : List UInt8} (h : k ∈ cs.map CrD.k) : crOf cs k ∈ cs ∧ (crOf cs k).k = k := by
  obtain ⟨c, hc, rfl⟩ := List.mem_map.1 h
  unfold crOf
  cases e : cs.find? (fun d => d.k == c.k) with
  | none => have := List.find?_eq_none.1 e c hc; simp at this
  | some d => exact ⟨List.mem_of_find?_eq_some e, by simpa using List.find?_some e⟩
theorem crOf_self {cs : List CrD} (hn : (cs.map CrD.k).Nodup) {c : CrD} (hc : c ∈ cs) : crOf cs c.k = c := by
  obtain ⟨h1, h2⟩ := crOf_mem (List.mem_map_of_mem (f := CrD.k) hc)
  exact nd_inj hn h1 hc h2
theorem sum_crOf {cs : List CrD} (hn : (cs.map CrD.k).Nodup) {sk : List (List UInt8)} (hp : sk.Perm (cs.map CrD.k)) : totC (sk.map (crOf cs)) = totC cs := by
  unfold totC
  have h1 : ((sk.map (crOf cs)).map CrD.cents).sum = (((cs.map CrD.k).map (crOf cs)).map CrD.cents).sum := List.Perm.sum_nat ((hp.map _).map _)
  rw [h1, List.map_map, List.map_map, show List.map ((CrD.cents ∘ crOf cs) ∘ CrD.k) cs = List.map CrD.cents cs from ?_]
  exact List.map_congr_left fun c hc => by show (crOf cs c.k).cents = c.cents; rw [crOf_self hn hc]
def allG (gs : List GainD) : Nat := (gs.map fun g => g.cents.toNat).sum
theorem allG_succ {gs : List GainD} {i : Nat} (h : i < gs.length) : allG (gs.take (i + 1)) = allG (gs.take i) + gs[i].cents.toNat := by
  unfold allG
  rw [List.take_succ_eq_append_getElem h, List.map_append, List.sum_append_nat]
  simp only [List.map_cons, List.map_nil, List.sum_cons, List.sum_nil, Nat.add_zero]
theorem allG_le {gs : List GainD} (h : ∀ g ∈ gs, g.cents.toNat ≤ 1000000000000) : allG gs ≤ gs.length * 1000000000000 := by
  unfold allG
  have := Hb.sum_le (ws := gs.map fun g => g.cents.toNat) (b := 1000000000000) (fun z hz => by obtain ⟨g, hg, rfl⟩ := List.mem_map.1 hz; exact h g hg)
  simpa using this
theorem allG_bound {gs : List GainD} (h : ∀ g ∈ gs, g.cents.toNat ≤ 1000000000000) (hl : gs.length ≤ 100) : allG gs ≤ 100000000000000 :=
  Nat.le_trans (allG_le h) (Nat.le_trans (Nat.mul_le_mul_right _ hl) (by decide))
theorem keys_len {w : World} {b n : Nat} {m : Lit → Option Value} (hM : Mp Tryz.prog 9 w b n m) (ks : List (List UInt8)) (hnd : ks.Nodup) (hk : ∀ x, x ∈ ks ↔ (m (.string x)).isSome = true) : ks.length ≤ n := by
  obtain ⟨D, ho, hd⟩ := hM
  have hsz := ho.size_le
  have hkeys : ks.Perm (strKeys D) := by
    obtain ⟨es, rfl, hes⟩ := ho.keysOf
    have ht := ho.tidy strKeyed
    obtain ⟨es', he, hpw⟩ := ht
    injection he with he
    subst he
    refine perm_strKeys hpw (fun p hp => ?_) hnd (fun x => ?_)
    · obtain ⟨v, hv⟩ := hes p hp
      obtain ⟨x, _, h2, _⟩ := Maps.keyOf_str Tryz.underlying9 hv
      exact ⟨x, h2⟩
    · rw [hk x, (hd (.string x) trivial).1]
  obtain ⟨es, rfl, hes⟩ := ho.keysOf
  rw [hkeys.length_eq]
  show (es.map _).length ≤ n
  rw [List.length_map]
  exact hsz
/-- What Attribute leaves. -/
def AtPost (ss : List SentD) (gs : List GainD) (w : World) (e : Ending) (w' : World) : Prop :=
  Below w.heap.size w w' ∧ ((∃ k : Int, k ≠ 0 ∧ (IsErr (sentAt ss) ss.length k ∨ (IsErr (sentAt ss) ss.length 0 ∧ IsErr (gainAt gs) gs.length k)) ∧ e = .returned (.tuple #[.slice none 0 0, .int .i64 0, .int .i64 k])) ∨
    (IsErr (sentAt ss) ss.length 0 ∧ IsErr (gainAt gs) gs.length 0 ∧ ∃ (v : Value) (os : List CrD) (none_ : Nat), e = .returned (.tuple #[v, .int .i64 (none_ : Int), .int .i64 0]) ∧ Orow w' w.heap.size 42 3 fCr v os ∧ totC os + none_ = allG gs ∧ ∀ d ∈ os, 1 ≤ d.gains ∧ d.gains ≤ gs.length))
/-- What is so at the head of its loop. -/
structure AI (H : Frz) (gs : List GainD) (mb N i none_ : Nat) (cs : List CrD) (W0 wr : World) : Prop where
  inn : H.In wr
  bel : Below mb W0 wr
  ci : CI mb N cs wr
  hm : H mb = none
  hc : ∀ c ∈ cs, H c.g = none
  ok : ∀ c ∈ cs, 1 ≤ c.gains ∧ c.gains ≤ i ∧ c.k.length ≤ 1000
  sum : totC cs + none_ = allG (gs.take i)
set_option maxHeartbeats 8000000 in
set_option maxRecDepth 100000 in
theorem attribute_any (H : Frz) (A : Option Addr) (cap : Nat) (ss : List SentD) (A2 : Option Addr) (cap2 : Nat) (gs : List GainD) (how span : Int) (w : World) (hH : H.In w) (hR : Rw H A 4 fSe ss) (hsz : SzS ss) (hl : ss.length ≤ 1000) (hcap : ss.length ≤ cap)
    (hR2 : Rw H A2 4 fGa gs) (hsz2 : SzG gs) (hl2 : gs.length ≤ 100) (hcap2 : gs.length ≤ cap2) (h1 : 1 ≤ how) (h6 : how ≤ 6) (hs1 : 1 ≤ span) (hs : span ≤ 4321440) :
    Calls Tryz.prog 8 #[.slice A ss.length cap, .slice A2 gs.length cap2, .int .i64 how, .int .i64 span] w (AtPost ss gs w) := by
  have HR := Lib.hid hR
  have HR2 := Lib.hid hR2
  have HH := Lib.hid hH
  have HS := Lib.hid hsz
  have HS2 := Lib.hid hsz2
  clear hR hR2 hH hsz hsz2
  go_enter Tryz.func8, Tryz.ntmps8
  go_wp2_with fail
  refine (checkSent_any H A cap ss w HH.out HR.out HS.out (by omega) hcap).mono ?_
  rintro e W1 ⟨k, rfl, hk, hb1⟩
  by_cases k0 : k = 0
  · subst k0
    have HSE := Lib.hid hk
    have HB1 := Lib.hid hb1
    clear hk hb1
    go_wp2_with fail
    refine (checkGains_any H A2 cap2 gs W1 (HH.out.below HB1.out) HR2.out HS2.out (by omega) hcap2).mono ?_
    rintro e W2 ⟨k, rfl, hk, hb2⟩
    have HB2 := Lib.hid (HB1.out.trans (hb2.mono HB1.out.size))
    clear hb2 HB1
    by_cases k0 : k = 0
    · subst k0
      have HGE := Lib.hid hk
      clear hk
      go_wp2_with fail
      refine (checkWays_any how span W2 h1 h6 hs1 hs).mono ?_
      rintro e W3 ⟨rfl, rfl⟩
      have hmm := @run_makeMap Tryz.prog
      have JA : Hid (AI H gs W3.heap.size (12 * 0) 0 0 [] (W3.alloc (.map #[] 0)) (W3.alloc (.map #[] 0))) :=
        ⟨(HH.out.below HB2.out).alloc _, Below.refl _ _, CI.new W3, (HH.out.below HB2.out).none_ (Nat.le_refl _), (fun c hc => by cases hc), (fun c hc => by cases hc), rfl⟩
      have HB3 := Lib.hid (HB2.out.trans ((new1 (w := W3) (.map #[] 0)).mono HB2.out.size))
      have HWM : Hid (w.heap.size ≤ W3.heap.size) := HB2.out.size
      have HMX : Hid (W3.heap.size < (W3.alloc (.map #[] 0)).heap.size) := by show _ < _; simp
      clear HB2
      go_upto_region 11 with (fail)
      clear hmm
      generalize W3.alloc (.map #[] 0) = W4 at *
      generalize W3.heap.size = mb at *
      go_wp2_with fail
      go_loopw [15, 41] (fun v t wr => ∃ (i nn : Nat) (cs : List CrD), i ≤ gs.length ∧ t = .int .i64 i ∧ v = .int .i64 (nn : Int) ∧ Hid (AI H gs mb (12 * i) i nn cs W4 wr)) (fun _ t _ => gs.length - (intOf t).toNat)
      case atStart => exact ⟨0, 0, [], by omega, rfl, rfl, JA⟩
      case round =>
        clear JA
        obtain ⟨i, nn, cs, hi, rfl, rfl, J⟩ := hrel
        by_cases hlt : i < gs.length
        · obtain ⟨b, off, hA, _, hc⟩ := HR2.out.at_ J.out.inn hlt (by omega)
          subst hA
          have c0 : wr.cell? ⟨b, off + i * 4, none⟩ = some (.string gs[i].id) := hc 0 (by omega)
          have c1 : wr.cell? ⟨b, off + i * 4 + 1, none⟩ = some (.string gs[i].person) := hc 1 (by omega)
          have c2 : wr.cell? ⟨b, off + i * 4 + 2, none⟩ = some (.int .i64 gs[i].at_) := hc 2 (by omega)
          have c3 : wr.cell? ⟨b, off + i * 4 + 3, none⟩ = some (.int .i64 gs[i].cents) := hc 3 (by omega)
          have hbd := Lib.hid (HS2.out _ (List.getElem_mem hlt) : BdG gs[i])
          have hge := HGE.out.all i hlt
          rw [gainAt_eq hlt] at hge
          obtain ⟨-, hce0, hce1⟩ := gainErr_ok hge
          have HSU := Lib.hid (allG_succ hlt)
          have hsle : Hid (allG (gs.take i) ≤ 100000000000000) := allG_bound (fun g hg => by
            obtain ⟨q, hq, rfl⟩ := List.getElem_of_mem (List.mem_of_mem_take hg)
            have h2 := HGE.out.all q hq
            rw [gainAt_eq hq] at h2
            have := (gainErr_ok h2).2
            omega) (by rw [List.length_take]; omega)
          have hlt2 : (i : Int) < gs.length := by omega
          clear hc hge
          generalize gs[i] = g at *
          generalize hq1 : allG (gs.take (i + 1)) = q1 at HSU
          have HQ1 := Lib.hid hq1
          clear hq1
          obtain ⟨H1, hle, hb1, hin1, hlo1⟩ := J.out.inn.putN (.cells #[.string g.id, .string g.person, .int .i64 g.at_, .int .i64 g.cents] 40)
          have HLE := Lib.hid hle
          have HIN1 := Lib.hid hin1
          have HB1 := Lib.hid hb1
          have HLO1 : Hid (∀ b, b < wr.heap.size → H1 b = H b) := fun b hb => hlo1 b (by omega)
          have HR1 := Lib.hid (HR.out.le hle)
          have CI1 := Lib.hid (J.out.ci.call (new1 (w := wr) (.cells #[.string g.id, .string g.person, .int .i64 g.at_, .int .i64 g.cents] 40)))
          have BE1 := Lib.hid (J.out.bel.trans ((new1 (w := wr) (.cells #[.string g.id, .string g.person, .int .i64 g.at_, .int .i64 g.cents] 40)).mono (Nat.le_of_lt J.out.ci.map.lt)))
          have HMB : Hid (mb < wr.heap.size) := J.out.ci.map.lt
          have HCB : Hid (∀ c ∈ cs, c.g < wr.heap.size) := fun c hc => lt_of_heap (J.out.ci.blk c hc).2
          have HSM := Lib.hid J.out.sum
          have HMN := Lib.hid J.out.hm
          have HCN := Lib.hid J.out.hc
          have HOK := Lib.hid J.out.ok
          have hwsz : (wr.alloc (.cells #[.string g.id, .string g.person, .int .i64 g.at_, .int .i64 g.cents] 40)).heap.size = wr.heap.size + 1 := by simp
          have HWSZ := Lib.hid hwsz
          clear hle hin1 hb1 hlo1 J hwsz
          go_upto_region 15 with (fail)
          clear c0 c1 c2 c3
          generalize wr.alloc (.cells #[.string g.id, .string g.person, .int .i64 g.at_, .int .i64 g.cents] 40) = W5 at *
          have hk := HIN1.out _ _ HB1.out
          have g0 : W5.cell? ⟨wr.heap.size, 0, none⟩ = some (.string g.id) := cell_h hk 0 rfl
          have g1 : W5.cell? ⟨wr.heap.size, 1, none⟩ = some (.string g.person) := cell_h hk 1 rfl
          have g2 : W5.cell? ⟨wr.heap.size, 2, none⟩ = some (.int .i64 g.at_) := cell_h hk 2 rfl
          have g3 : W5.cell? ⟨wr.heap.size, 3, none⟩ = some (.int .i64 g.cents) := cell_h hk 3 rfl
          have HPA := Lib.hid (path_any H1 A cap ss g span W5 HIN1.out HR1.out HS.out hl hbd.out hs1 (by omega))
          clear hk
          go_wp2_with fail
          refine HPA.out.mono ?_
          rintro e W6 ⟨At, capt, l, H2, rfl, hl12, hpo, hle2, hin2, hlo2, hRt, hb6⟩
          have HIN2 := Lib.hid hin2
          have HLO2 : Hid (∀ b, b < wr.heap.size → H2 b = H b) := fun b hb => (hlo2 b (by have := HWSZ.out; omega)).trans (HLO1.out b hb)
          have HLE2 := Lib.hid (HLE.out.trans hle2)
          have HR2b := Lib.hid (HR1.out.le hle2)
          have HRT := Lib.hid hRt
          have HPO := Lib.hid hpo
          have CI6 := Lib.hid (CI1.out.call hb6)
          have BE6 := Lib.hid (BE1.out.trans (hb6.mono (by have := HMB.out; have := HWSZ.out; omega)))
          have hk := hin2 _ _ (hle2 _ _ HB1.out)
          clear g0 g1 g2 g3
          have g0 : W6.cell? ⟨wr.heap.size, 0, none⟩ = some (.string g.id) := cell_h hk 0 rfl
          have g1 : W6.cell? ⟨wr.heap.size, 1, none⟩ = some (.string g.person) := cell_h hk 1 rfl
          have g2 : W6.cell? ⟨wr.heap.size, 2, none⟩ = some (.int .i64 g.at_) := cell_h hk 2 rfl
          have g3 : W6.cell? ⟨wr.heap.size, 3, none⟩ = some (.int .i64 g.cents) := cell_h hk 3 rfl
          clear hk hin2 hlo2 hle2 hRt hpo hb6 HPA CI1 BE1 HIN1 HB1 HLO1 HLE HR1
          by_cases hl0 : 0 < l.length
          · have hl02 : (0 : Int) < (l.length : Int) := by omega
            have HCR := Lib.hid (credit_any H2 mb (12 * i) i (totC cs) cs A cap ss g At capt l how span W6 HIN2.out CI6.out (by rw [HLO2.out mb HMB.out]; exact HMN.out) (fun c hc => by rw [HLO2.out _ (HCB.out c hc)]; exact HCN.out c hc) HOK.out rfl (by omega) (by omega) (by have := HSM.out; have := hsle.out; omega) HR2b.out HS.out hl hbd.out hce0 hce1 HRT.out HPO.out hl12 hl0 h1 h6 hs1 (by omega))
            clear hsle
            go_wp2_with fail
            refine HCR.out.mono ?_
            rintro e W7 ⟨rfl, cs2, hci2, hsum2, hok2, hin7, hbe7, hcn7⟩
            have J7 : Hid (AI H gs mb (12 * (i + 1)) (i + 1) nn cs2 W4 W7) := by
              refine ⟨hin7.le HLE2.out, BE6.out.trans hbe7, hci2.more (by omega), HMN.out, fun c hc => ?_, fun c hc => ?_, ?_⟩
              · cases e : H c.g with
                | none => rfl
                | some o => exact absurd ((HLE2.out _ _ e).symm.trans (hcn7 c hc)) (by simp)
              · have := hok2 c hc; exact ⟨this.1, this.2.1, this.2.2⟩
              · have h8 := HSM.out
                have h9 := HSU.out
                rw [HQ1.out]
                omega
            clear hci2 hsum2 hok2 hin7 hbe7 hcn7 HCR g0 g1 g2 g3 CI6 BE6
            go_wp2_with fail
            go_roundw
            case rel => exact ⟨i + 1, nn, cs2, by omega, by go_num, rfl, J7⟩
            case measure => simp [intOf]; omega
          · have hl02 : ¬ (0 : Int) < (l.length : Int) := by omega
            obtain ⟨c, hc⟩ := Int.eq_ofNat_of_zero_le hce0
            rw [hc] at g3
            have J7 : Hid (AI H gs mb (12 * (i + 1)) (i + 1) (nn + c) cs W4 W6) := by
              refine ⟨HIN2.out.le HLE2.out, BE6.out, CI6.out.more (by omega), HMN.out, HCN.out, fun c hc => ?_, ?_⟩
              · have := HOK.out c hc; exact ⟨this.1, by omega, this.2.2⟩
              · have h8 := HSM.out
                have h9 := HSU.out
                rw [HQ1.out]
                omega
            have hnb : (nn : Int) + (c : Int) ≤ 102000000000000 := by have := HSM.out; have := hsle.out; omega
            clear hsle CI6 BE6
            go_wp2_with fail
            go_roundw
            case rel => exact ⟨i + 1, nn + c, cs, by omega, by go_num, by rw [Int.natCast_add], J7⟩
            case measure => simp [intOf]; omega
        · have hie : i = gs.length := by omega
          subst hie
          have hsm := J.out.sum
          rw [List.take_length] at hsm
          have HCI := Lib.hid J.out.ci
          have HSUM := Lib.hid hsm
          have HOK := Lib.hid J.out.ok
          have HBF := Lib.hid (HB3.out.trans (J.out.bel.mono HWM.out))
          have HKN : Hid (∀ x, x ∈ cs.map CrD.k ↔ (ptrMp (cs.map keyG) (.string x)).isSome = true) := fun x => by
            constructor
            · intro hx
              obtain ⟨d, hd, rfl⟩ := List.mem_map.1 hx
              obtain ⟨p, hp, rfl⟩ := List.getElem_of_mem hd
              rw [HCI.out.look_some hp]; rfl
            · intro hx
              apply Classical.byContradiction
              intro hn
              rw [HCI.out.look_none hn] at hx
              cases hx
          clear hsm J
          go_wp2_with fail
          refine (keys_any _ _).mono ?_
          rintro e w' ⟨rfl, rfl⟩
          go_wp2_with fail
          refine (sorted_any mb (12 * gs.length) (ptrMp (cs.map keyG)) wr HCI.out.map (by omega) (cs.map CrD.k) HCI.out.ndk HKN.out).mono ?_
          rintro e W6 ⟨⟨v, rfl, hO⟩, hb6⟩
          have hpm : ((cs.map CrD.k).mergeSort leB).Perm (cs.map CrD.k) := List.mergeSort_perm _ _
          have HPM := Lib.hid hpm
          obtain ⟨Ak, capk, Hk, hvk, hck, q1, q2, hRk, q3, -⟩ := hO.freeze Frz.empty
          subst hvk
          have HINK := Lib.hid (q1 (Frz.In.empty _))
          have HRK := Lib.hid hRk
          have HCI6 := Lib.hid (HCI.out.call hb6)
          have HB6 := Lib.hid (HBF.out.trans (hb6.mono HBF.out.size))
          have hskl : ((cs.map CrD.k).mergeSort leB).length ≤ 1000000 := by
            rw [List.length_mergeSort, List.length_map]
            have h1 := keys_len HCI.out.map (cs.map CrD.k) HCI.out.ndk HKN.out
            rw [List.length_map] at h1
            omega
          have HSKM : Hid (∀ x ∈ (cs.map CrD.k).mergeSort leB, crOf cs x ∈ cs ∧ (crOf cs x).k = x) := fun x hx => crOf_mem (hpm.mem_iff.1 hx)
          have HTOT := Lib.hid (sum_crOf HCI.out.ndk hpm)
          clear hO hb6 q1 q2 q3 hRk hpm HPM HCI HBF HKN
          generalize (cs.map CrD.k).mergeSort leB = sk at *
          obtain ⟨i6, hi6, hz60, hz61, hz62⟩ := info_parts infoCr
          have HO0 : Hid (Orow W6 W6.heap.size 42 3 fCr (.slice none 0 0) ((sk.take 0).map (crOf cs))) := by
            show Orow _ _ _ _ _ _ _
            rw [List.take_zero]
            exact Orow.nil _ _ _ _ _
          have HOB : Hid (Below W6.heap.size W6 W6) := Below.refl _ _
          go_wp2_with fail
          go_loopw [19, 68] (fun v t wr => ∃ j : Nat, j ≤ sk.length ∧ t = .int .i64 j ∧ Hid (Orow wr W6.heap.size 42 3 fCr v ((sk.take j).map (crOf cs))) ∧ Hid (Below W6.heap.size W6 wr)) (fun _ t _ => sk.length - (intOf t).toNat)
          case atStart => exact ⟨0, by omega, rfl, HO0, HOB⟩
          case round =>
            clear HO0 HOB
            obtain ⟨j, hj, rfl, J, JB⟩ := hrel
            by_cases hltj : j < sk.length
            · obtain ⟨bk, ok, hA, hblk, hc⟩ := HRK.out.at_ (HINK.out.below JB.out) hltj (by omega)
              subst hA
              have c0 : wr.cell? ⟨bk, ok + j, none⟩ = some (.string ⟨sk[j].toArray⟩) := by simpa [fK] using hc 0 (by omega)
              obtain ⟨hm1, hm2⟩ := HSKM.out _ (List.getElem_mem hltj)
              have hci7 := HCI6.out.call JB.out
              obtain ⟨p, hp, hpe⟩ := List.getElem_of_mem hm1
              have hlk := hci7.look_some hp
              have hbk := (hci7.blk _ hm1).2
              have hok := HOK.out _ hm1
              have HTK : Hid ((sk.take (j + 1)).map (crOf cs) = (sk.take j).map (crOf cs) ++ [crOf cs sk[j]]) := by show _ = _; rw [List.take_succ_eq_append_getElem hltj, List.map_append]; rfl
              rw [hpe, hm2] at hlk
              have hszk : (⟨sk[j].toArray⟩ : ByteArray).size ≤ 1000 := by
                have h1 := hok.2.2
                rw [hm2] at h1
                show sk[j].toArray.size ≤ 1000
                simpa using h1
              have HK1 := Lib.hid (strKey (s := ⟨sk[j].toArray⟩) (by omega))
              have HCM : Hid ((ptrMp (cs.map keyG) (codeLit ⟨sk[j].toArray⟩)).getD (.pointer none) = .pointer (some ⟨(crOf cs sk[j]).g, 0, none⟩)) := by
                show _ = _
                rw [show codeLit ⟨sk[j].toArray⟩ = .string sk[j] from rfl, hlk]
                rfl
              have HM7 := Lib.hid hci7.map
              have HTL : Hid (((sk.take j).map (crOf cs)).length = j) := by show _ = _; simp; omega
              generalize hq1 : (sk.take (j + 1)).map (crOf cs) = q1 at HTK
              have HQ1 := Lib.hid hq1
              clear hq1
              generalize (sk.take j).map (crOf cs) = q0 at *
              generalize crOf cs sk[j] = r at *
              have y0 : wr.cell? ⟨r.g, 0, none⟩ = some (.string ⟨r.k.toArray⟩) := cell_h hbk 0 rfl
              have y1 : wr.cell? ⟨r.g, 1, none⟩ = some (.int .i64 (r.gains : Nat)) := cell_h hbk 1 rfl
              have y2 : wr.cell? ⟨r.g, 2, none⟩ = some (.int .i64 (r.cents : Nat)) := cell_h hbk 2 rfl
              have hlr : q0.length ≤ 4294967296 := by rw [HTL.out]; omega
              have hB6 := JB.out.size
              clear hc hlk hbk hok hm1 hm2 hp hpe hci7 hszk
              generalize (⟨sk[j].toArray⟩ : ByteArray) = kb at *
              go_upto_region 25 with (first | (at_lookup; refine wpList_mp_getv _ rfl _ _ 52 rfl 9 60 strKeyed Tryz.underlying52 (.pointer none) (zeroPtrC _) mb (12 * gs.length) (ptrMp (cs.map keyG)) rfl HM7.out _ _ rfl HK1.out _ HCM.out ?_) | (at_builtin; refine wpList_app rfl _ _ 32 rfl W6.heap.size 42 i6 (.agg #[.string ⟨#[]⟩, .int .i64 0, .int .i64 0]) 3 32 Tryz.underlying32 hi6 hz60 hz61 hz62 rfl (by decide) fCr _ q0 rfl J.out r #[.string ⟨r.k.toArray⟩, .int .i64 (r.gains : Nat), .int .i64 (r.cents : Nat)] 42 rfl rfl (by simp [Value.oneCell']) hlr (by omega) hB6 ?_; intro v8 W8 ho8 hg8 hb8; have J8 := Lib.hid ho8; have JB8 := Lib.hid (JB.out.trans hb8); clear ho8 hg8 hb8))
              rw [← HTK.out] at J8
              clear J JB y0 y1 y2 c0
              go_wp2_with fail
              go_roundw
              case rel => exact ⟨j + 1, by omega, by go_num, by rw [HQ1.out]; exact J8, JB8⟩
              case measure => simp [intOf]; omega
            · have hje : j = sk.length := by omega
              subst hje
              rw [List.take_length] at J
              have HF : Hid (AtPost ss gs w (.returned (.tuple #[u19, .int .i64 (nn : Int), .int .i64 0])) wr) := by
                refine ⟨HB6.out.trans (JB.out.mono HB6.out.size), Or.inr ⟨HSE.out, HGE.out, u19, sk.map (crOf cs), nn, rfl, J.out.mono HB6.out.size, by rw [HTOT.out]; exact HSUM.out, fun d hd => ?_⟩⟩
                obtain ⟨x, hx, rfl⟩ := List.mem_map.1 hd
                have := HOK.out _ (HSKM.out x hx).1
                exact ⟨this.1, this.2.1⟩
              go_wp2_with fail
              go_ret3
              exact HF.out
    · have hne : (k != 0) = true := by simpa using k0
      have HF : Hid (AtPost ss gs w (.returned (.tuple #[.slice none 0 0, .int .i64 0, .int .i64 k])) W2) := ⟨HB2.out, Or.inl ⟨k, k0, Or.inr ⟨HSE.out, hk⟩, rfl⟩⟩
      clear hk k0
      go_wp2_with fail
      go_ret3
      exact HF.out
  · have hne : (k != 0) = true := by simpa using k0
    have HF : Hid (AtPost ss gs w (.returned (.tuple #[.slice none 0 0, .int .i64 0, .int .i64 k])) W1) := ⟨hb1, Or.inl ⟨k, k0, Or.inl hk, rfl⟩⟩
    clear hk hb1 k0
    go_wp2_with fail
    go_ret3
    exact HF.out
end Go.Proofs.YtihcmifikbkbcaaGreatDoor

/- The package measure is there: it reduces a fraction. -/
namespace Go.Proofs.YtihcmifikbkbcaaGreatDoor
set_option linter.unusedVariables false
open Go.RowKit

theorem gcd_step {x y : Nat} (_h : ¬ y = 0) : Nat.gcd y (x % y) = Nat.gcd x y := by
  rw [Nat.gcd_comm x y, Nat.gcd_rec y x, Nat.gcd_comm]

set_option maxHeartbeats 400000 in
theorem divisor_any (a b : Nat) (w : World) (_ha : a < 18446744073709551616) (_hb : b < 18446744073709551616) :
    Calls Tryz.prog 57 #[.int .u64 a, .int .u64 b] w fun e w' => e = .returned (.int .u64 (Nat.gcd a b)) ∧ ∃ n, w' = w.drewN n := by
  go_enter Tryz.func57, Tryz.ntmps57
  go_wp2
  go_loopw [0, 1] (fun s t wr => ∃ x y n : Nat, s = .int .u64 x ∧ t = .int .u64 y ∧ wr = w.drewN n ∧ x < 18446744073709551616 ∧ y < 18446744073709551616 ∧ Hid (Nat.gcd x y = Nat.gcd a b)) (fun _ t _ => (intOf t).toNat)
  case atStart => exact ⟨a, b, 0, rfl, rfl, rfl, _ha, _hb, rfl⟩
  case round =>
    obtain ⟨x, y, n, rfl, rfl, rfl, hx, hy, hg⟩ := hrel
    by_cases h0 : y = 0
    · subst h0
      go_wp2
      go_ret
      exact ⟨ret_int (by have := hg.out; rw [Nat.gcd_zero_right] at this; rw [this]), n, rfl⟩
    · have h1 : ((y : Int) != 0) = true := by simp; omega
      go_wp2
      go_quiet (fail)
      go_wp2
      go_roundw
      case rel => exact ⟨y, x % y, n + nq, rfl, by go_num, World.drewN_drewN _ _ _, hy, Nat.lt_trans (Nat.mod_lt _ (by omega)) hy, (gcd_step h0).trans hg⟩
      case measure => simp only [intOf]; have := Nat.mod_lt x (show 0 < y by omega); omega

theorem divisor_int (a b : Int) (w : World) (h1 : 0 ≤ a) (h2 : a < 18446744073709551616) (h3 : 0 ≤ b) (h4 : b < 18446744073709551616) :
    Calls Tryz.prog 57 #[.int .u64 a, .int .u64 b] w fun e w' => e = .returned (.int .u64 (Nat.gcd a.toNat b.toNat)) ∧ ∃ n, w' = w.drewN n := by
  obtain ⟨x, rfl⟩ := Int.eq_ofNat_of_zero_le h1
  obtain ⟨y, rfl⟩ := Int.eq_ofNat_of_zero_le h3
  exact divisor_any x y w (by omega) (by omega)

theorem ret_nat {k : IntKind} {a : Int} {b : Nat} (h : a = (b : Int)) : Ending.returned (.int k a) = .returned (.int k b) := by rw [h]

set_option maxHeartbeats 400000 in
theorem size_any (n : Int) (w : World) (h0 : 0 ≤ n) (h1 : n ≤ 9223372036854775807) :
    Calls Tryz.prog 58 #[.int .i64 n] w fun e w' => e = .returned (.int .u64 n) ∧ w = w' := by
  go_enter Tryz.func58, Tryz.ntmps58
  go_wp2
  go_ret
  exact ⟨rfl, rfl⟩

theorem div_in (a g : Nat) (h : a ≤ 9223372036854775807) : wrap64 ((a : Int) / g) = ((a / g : Nat) : Int) := by
  have h1 : a / g ≤ a := Nat.div_le_self _ _
  have e : ((a : Int) / g) = ((a / g : Nat) : Int) := by simp
  rw [e]
  generalize a / g = q at h1
  exact IntWalk.wrap64_in _ (by omega)

/-- A fraction as reduce makes it. -/
def frac (num den : Nat) : Value := .agg #[.int .i64 (num / Nat.gcd num den : Nat), .int .i64 (den / Nat.gcd num den : Nat)]

set_option maxHeartbeats 400000 in
theorem reduce_any (num den : Nat) (w : World) (hn : num ≤ 9223372036854775807) (hd : den ≤ 9223372036854775807) (hd0 : 0 < den) :
    Calls Tryz.prog 39 #[.int .i64 num, .int .i64 den] w fun e w' => e = .returned (frac num den) ∧ Below w.heap.size w w' := by
  have hg : 1 ≤ Nat.gcd num den := Nat.gcd_pos_of_pos_right _ hd0
  have hg2 : Nat.gcd num den ≤ den := Nat.gcd_le_right _ hd0
  unfold frac
  go_enter Tryz.func39, Tryz.ntmps39
  go_wp2_with (go_at_call 58; refine (size_any _ _ (by omega) (by omega)).mono ?_; rintro e w' ⟨rfl, rfl⟩)
  refine (divisor_int _ _ _ (by omega) (by omega) (by omega) (by omega)).mono ?_
  rintro e w' ⟨rfl, q1, rfl⟩
  rw [Int.toNat_natCast, Int.toNat_natCast]
  generalize hgd : Nat.gcd num den = g at hg hg2 ⊢
  have HG := Lib.hid hgd
  clear hgd
  go_wp2_with fail
  go_region
  go_wp2_with fail
  refine bodyPost_ret (v := .agg #[.int .i64 (wrap64 ((num : Int) / g)), .int .i64 (wrap64 ((den : Int) / g))]) (by simp [results, Tryz.results39, go_sem]) rfl ⟨?_, ?_⟩
  · rw [HG.out, div_in num g hn, div_in den g hd]
  · exact ((below_drewN ((Below.refl _ _).alloc (Nat.le_refl _) _) _).setCell (Nat.le_refl _) _).setCell (Nat.le_refl _) _

theorem cell2 {w1 W : World} {B n : Nat} {T : TypeId} {x y : Value} (hb : Below B W w1) (hR : W.heap[n]? = some (.cells #[x, y] T (0, 0))) (h : n < B) :
    w1.cell? ⟨n, 0, none⟩ = some x ∧ w1.cell? ⟨n, 1, none⟩ = some y ∧ w1.frozen? ⟨n, 0, none⟩ = false ∧ w1.frozen? ⟨n, 1, none⟩ = false := by
  have hR1 := (hb.block n h).trans hR
  exact ⟨by simp [World.cell?, hR1], by simp [World.cell?, hR1], by simp [World.frozen?, hR1], by simp [World.frozen?, hR1]⟩

set_option maxHeartbeats 400000 in
theorem Reduce24 (w : World) :
    Calls Tryz.prog 23 #[.int .i64 2, .int .i64 4] w fun e w' =>
      e = .returned (.tuple #[.agg #[.int .i64 1, .int .i64 2], .int .i64 0]) ∧ Below w.heap.size w w' := by
  go_enter Tryz.func23, Tryz.ntmps23
  go_wp2_with (go_at_call 33; refine (mwithin_any _ _ _ _).mono ?_; rintro e w' ⟨rfl, rfl⟩)
  refine (reduce_any 2 4 _ (by omega) (by omega) (by omega)).mono ?_
  rintro e w1 ⟨rfl, hb1⟩
  obtain ⟨r0, r1, f0, f1⟩ := cell2 hb1 (heap_at rfl) (by simp)
  rw [show frac 2 4 = .agg #[.int .i64 1, .int .i64 2] from rfl]
  go_wp2_with fail
  refine bodyPost_ret (v := .tuple #[.agg #[.int .i64 1, .int .i64 2], .int .i64 0]) (by simp [results, Tryz.results23, go_sem, r0, r1]) rfl ⟨rfl, ?_⟩
  exact ((((Below.refl _ w).alloc (Nat.le_refl _) _).trans (hb1.mono (by simp))).setCell (Nat.le_refl _) _).setCell (Nat.le_refl _) _

set_option maxHeartbeats 400000 in
theorem measures_any (w : World) :
    Calls Tryz.prog 9 #[] w fun e w' => e = .returned (.bool true) ∧ Below w.heap.size w w' := by
  go_enter Tryz.func9, Tryz.ntmps9
  go_wp2_with (go_at_call 23; refine (Reduce24 _).mono ?_; rintro e w1 ⟨rfl, hb1⟩)
  go_ret
  exact ⟨rfl, hb1.alloc hb1.size _⟩

end Go.Proofs.YtihcmifikbkbcaaGreatDoor
