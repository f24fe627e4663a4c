/- Steps: how far letters went. -/
import Derived.Test.YtecbejmeejepmaaStepsQ
import Derived.Test.YtecbejmeejepmaaMakeG
namespace Go.Proofs.Ytecbejmeejepmaa
set_option linter.unusedVariables false
open Go.RowKit

def SzA (ac : List ActD) : Prop := ∀ a ∈ ac, a.sent.size ≤ 1000 ∧ -10000000 ≤ a.kind ∧ a.kind ≤ 10000000 ∧ -10000000 ≤ a.at_ ∧ a.at_ ≤ 20000000
def rowsOf (ss : List SentD) (ac : List ActD) (span : Int) : List RowD := ((lets ss ss.length).mergeSort leB).map (fun k => rowN ss (didB ss ac span) k ss.length)
/-- What Steps leaves. -/
def StPost (W : World) (ss : List SentD) (ac : List ActD) (span : Int) (e : Ending) (W' : World) : Prop :=
  Below W.heap.size W W' ∧ ((∃ k : Int, k ≠ 0 ∧ StErr ss ac k ∧ e = .returned (.tuple #[.slice none 0 0, .int .i64 k])) ∨
    (StErr ss ac 0 ∧ ∃ v, e = .returned (.tuple #[v, .int .i64 0]) ∧ Orow W' W.heap.size 36 6 fRow v (rowsOf ss ac span)))
theorem StPost.bad {W W' : World} {ss : List SentD} {ac : List ActD} {span k : Int} (hk : k ≠ 0) (h : StErr ss ac k) (hb : Below W.heap.size W W') : StPost W ss ac span (.returned (.tuple #[.slice none 0 0, .int .i64 k])) W' := ⟨hb, Or.inl ⟨k, hk, h, rfl⟩⟩
theorem zeroInt (w : World) : (zeroValue 3).run Try.prog w = .ok (.int .i64 0) w := by kernel_rfl
theorem zeroPtr (w : World) : (zeroValue 55).run Try.prog w = .ok (.pointer none) w := by kernel_rfl
theorem infoRow : (Try.prog.info? 36).map (fun i => (i.zero, i.size, i.bytes)) = some (some (.agg #[.string ⟨#[]⟩, .int .i64 0, .int .i64 0, .int .i64 0, .int .i64 0, .int .i64 0]), 6, 56) := by kernel_rfl
theorem infoDid : (Try.prog.info? 53).map (fun i => (i.zero, i.size, i.bytes)) = some (some (.agg #[.bool false, .bool false, .bool false, .bool false, .bool false]), 5, 5) := by kernel_rfl
theorem frz3 {H : Frz} {w : World} (h : H.In w) {g : Nat} {x y z : Value} {T : TypeId} (e : H g = some (.cells #[x, y, z] T (0, 0))) :
    w.cell? ⟨g, 0, none⟩ = some x ∧ w.cell? ⟨g, 1, none⟩ = some y ∧ w.cell? ⟨g, 2, none⟩ = some z := by
  have := h _ _ e
  simp [World.cell?, this]
set_option maxHeartbeats 400000 in
theorem mAct_any (n : Int) (w : World) : Calls Try.prog 16 #[.int .i64 n] w fun e w' => e = .returned (.bool (decide (1 ≤ n) && decide (n ≤ 4))) ∧ w = w' := by
  go_enter Try.func16, Try.ntmps16
  go_wp2_with fail
  refine (mwithin_any _ _ _ _).mono ?_
  rintro e w' ⟨rfl, rfl⟩
  generalize hq : (decide (1 ≤ n) && decide (n ≤ 4)) = q
  have HQ := Lib.hid hq
  clear hq
  go_wp2_with fail
  go_ret
  exact ⟨ret_bool' HQ.out.symm, rfl⟩
/-- The third loop. -/
structure DI (ss : List SentD) (ac : List ActD) (span : Int) (W : World) (k : Nat) (wr : World) : Prop where
  bel : Below W.heap.size W wr
  row : Orow wr W.heap.size 53 5 fD (.slice (some ⟨W.heap.size, 0, none⟩) ss.length ss.length) (didL ss (ac.take k) span)
theorem DI.new {ss : List SentD} {ac : List ActD} {span : Int} {W w2 : World} (h : w2.ownsRow W.heap.size 53 5 (.slice (some ⟨W.heap.size, 0, none⟩) ss.length ss.length) ss.length (madeCells (Value.agg #[.bool false, .bool false, .bool false, .bool false, .bool false]).cells (ss.length * 5)).toList) (hg : W.grownBy w2 none) : DI ss ac span W 0 w2 := by
  refine ⟨⟨hg.os, hg.tape, hg.output, hg.size, fun i hi => hg.block i hi (by simp)⟩, ?_⟩
  unfold Orow
  rw [List.take_zero, did0, didL_len, ← made5]
  exact h
theorem DI.call {ss : List SentD} {ac : List ActD} {span : Int} {W wr w' : World} {k : Nat} (h : DI ss ac span W k wr) (hb : Below wr.heap.size wr w') : DI ss ac span W k w' :=
  ⟨h.bel.trans (hb.mono h.bel.size), h.row.below hb⟩
theorem DI.pass {ss : List SentD} {ac : List ActD} {span : Int} {W wr : World} {k : Nat} (h : DI ss ac span W k wr) (hk : k < ac.length) {i0 : Nat} (hi : idIx ss ac[k].sent = some i0) (hs : ¬ ac[k].at_ - atOf ss i0 ≤ span) : DI ss ac span W (k + 1) wr :=
  ⟨h.bel, by rw [didL_no ss ac span k hk hi hs]; exact h.row⟩
theorem DI.put {ss : List SentD} {ac : List ActD} {span : Int} {W wr : World} {k : Nat} (h : DI ss ac span W k wr) (hk : k < ac.length) {i0 : Nat} (hi : idIx ss ac[k].sent = some i0) (hs : ac[k].at_ - atOf ss i0 ≤ span) {kd : Nat} (hkd : ac[k].kind = kd) (hkd5 : kd < 5) :
    (∃ b, wr.cell? ⟨W.heap.size, i0 * 5 + kd, none⟩ = some (.bool b)) ∧ wr.frozen? ⟨W.heap.size, i0 * 5 + kd, none⟩ = false ∧ DI ss ac span W (k + 1) (wr.setCell ⟨W.heap.size, i0 * 5 + kd, none⟩ (.bool true)) := by
  have hi0 := idIx_lt hi
  have h0 : i0 < (didL ss (ac.take k) span).length := by rw [didL_len]; exact hi0
  have hne : didL ss (ac.take k) span ≠ [] := fun e => by rw [e] at h0; simp at h0
  obtain ⟨g', cap', rest, hv, hle', hB', hlt, hm', hblk, hr⟩ := h.row.form hne
  simp only [Value.slice.injEq, Option.some.injEq, Addr.mk.injEq] at hv
  obtain ⟨⟨rfl, _⟩, hlen, rfl⟩ := hv
  refine ⟨⟨_, hblk.cell i0 kd h0 hkd5⟩, hblk.frozen _, h.bel.setCell (p := ⟨W.heap.size, i0 * 5 + kd, none⟩) (Nat.le_refl _) _, ?_⟩
  have hu := hblk.upd i0 kd h0 hkd5 (d' := fun j => (didL ss (ac.take k) span)[i0] j || decide (j = kd)) (x := .bool true) (by simp [fD]) (fun m hm hne => by simp [fD, hne])
  have := Orow.of_blk (B := W.heap.size) hu hB' hm' (by simpa using hle') (by simpa using hr)
  rw [didL_yes ss ac span k hk hi hs hkd h0]
  rw [List.length_set, didL_len] at this
  exact this
theorem RI.mem {ss : List SentD} {d : Nat → Nat → Bool} {W wr : World} {i : Nat} {ps : List (List UInt8 × Nat)} (h : RI ss d W i ps wr) {k : List UInt8} (hk : k ∈ lets ss i) : ∃ p ∈ ps, p.1 = k := by
  rw [← h.fst] at hk
  exact List.mem_map.1 hk
theorem RI.isSome {ss : List SentD} {d : Nat → Nat → Bool} {W wr : World} {i : Nat} {ps : List (List UInt8 × Nat)} (h : RI ss d W i ps wr) (x : List UInt8) : x ∈ lets ss i ↔ (ptrMp ps (.string x)).isSome = true := by
  constructor
  · intro hx
    obtain ⟨p, hp, rfl⟩ := h.mem hx
    rw [ptrMp_some h.nodup hp]; rfl
  · intro hx
    apply Classical.byContradiction
    intro hn
    rw [← h.fst] at hn
    rw [ptrMp_none hn] at hx
    cases hx
theorem lets_mem {ss : List SentD} {n : Nat} {k : List UInt8} (h : k ∈ lets ss n) : ∃ s ∈ ss, s.letter.data.toList = k := by
  induction n with
  | zero => cases h
  | succ n ih =>
    rw [lets] at h
    cases e : ss[n]? with
    | none => rw [e] at h; exact ih h
    | some s =>
      rw [e] at h
      simp only at h
      split at h
      · exact ih h
      · rcases List.mem_append.1 h with h | h
        · exact ih h
        · simp only [List.mem_singleton] at h
          exact ⟨s, List.mem_of_getElem? e, h.symm⟩
theorem str_back (s : ByteArray) : (⟨s.data.toList.toArray⟩ : ByteArray) = s := by cases s; rfl
theorem fRow_one (d : RowD) : ∀ u ∈ (rowCells d).toList, u.oneCell' = true := by
  intro u hu
  simp [rowCells] at hu
  rcases hu with rfl | rfl | rfl | rfl | rfl | rfl <;> rfl
theorem fRow_cells (d : RowD) : (List.range 6).map (fRow d) = (rowCells d).toList := rfl
theorem actErr_ok {ss : List SentD} {a : ActD} (h : actErr ss a = 0) : ∃ i0, idIx ss a.sent = some i0 ∧ 1 ≤ a.kind ∧ a.kind ≤ 4 ∧ 0 ≤ a.at_ ∧ a.at_ ≤ 4321439 := by
  unfold actErr at h
  cases e : idIx ss a.sent with
  | none => rw [e] at h; simp at h
  | some i0 =>
    rw [e] at h
    simp only at h
    split at h
    · omega
    · split at h
      · omega
      · exact ⟨i0, rfl, by omega, by omega, by omega, by omega⟩
theorem rowN_le (ss : List SentD) (d : Nat → Nat → Bool) (k : List UInt8) (n : Nat) : (rowN ss d k n).sent ≤ n ∧ (rowN ss d k n).opened ≤ n ∧ (rowN ss d k n).clicked ≤ n ∧ (rowN ss d k n).bought ≤ n ∧ (rowN ss d k n).left ≤ n := ⟨ct_le _ _, ct_le _ _, ct_le _ _, ct_le _ _, ct_le _ _⟩
theorem RI.size_lt {ss : List SentD} {d : Nat → Nat → Bool} {W wr : World} {i : Nat} {ps : List (List UInt8 × Nat)} (h : RI ss d W i ps wr) {p : List UInt8 × Nat} (hp : p ∈ ps) : p.2 < wr.heap.size := lt_of_heap (h.blk p hp).2
theorem lets_len (ss : List SentD) (n : Nat) : (lets ss n).length ≤ n := by
  induction n with
  | zero => exact Nat.le_refl _
  | succ n ih =>
    rw [lets]
    split
    · omega
    · split
      · omega
      · simp; omega
/-- The last loop. -/
structure OI (W : World) (rs : List RowD) (j : Nat) (v : Value) (wr : World) : Prop where
  bel : Below W.heap.size W wr
  row : Orow wr W.heap.size 36 6 fRow v (rs.take j)
set_option maxHeartbeats 16000000 in
set_option maxRecDepth 100000 in
theorem steps_any (H : Frz) (A : Option Addr) (cap : Nat) (ss : List SentD) (Aa : Option Addr) (capa : Nat) (ac : List ActD) (span : Int) (W : World) (hH : H.In W) (hR : Rw H A 4 fSe ss) (hRa : Rw H Aa 3 fA ac) (hsz : SzS ss) (hsa : SzA ac)
    (hl : ss.length ≤ 1000) (hcap : ss.length ≤ cap) (hla : ac.length ≤ 1000) (hcapa : ac.length ≤ capa) (sp0 : 0 ≤ span) (sp1 : span ≤ 4321440) :
    Calls Try.prog 7 #[.slice A ss.length cap, .slice Aa ac.length capa, .int .i64 span] W (StPost W ss ac span) := by
  have HR := Lib.hid hR
  have HRA := Lib.hid hRa
  have HH := Lib.hid hH
  have HS := Lib.hid hsz
  have HSA := Lib.hid hsa
  clear hR hRa hH hsz hsa
  go_enter Try.func7, Try.ntmps7
  go_wp2_with fail
  refine (checkSent_any H A cap ss W HH.out HR.out HS.out (by omega) hcap).mono ?_
  rintro e W1 ⟨k, rfl, hk, hb1⟩
  by_cases k0 : k = 0
  · subst k0
    have HSE := Lib.hid hk
    have HB1 := Lib.hid hb1
    have hmm := @run_makeMap Try.prog
    have HNEW := Lib.hid (AtI.new ss W1)
    have hla' : decide ((5000 : Int) < ac.length) = false := by simp; omega
    clear hk hb1
    go_wp2_with fail
    clear hmm
    go_loopw [38] (fun t wr => ∃ i : Nat, i ≤ ss.length ∧ t = .int .i64 i ∧ Hid (AtI ss W1 i wr)) (fun t _ => ss.length - (intOf t).toNat)
    case atStart => exact ⟨0, by omega, rfl, HNEW⟩
    case round =>
      obtain ⟨i, hi, rfl, hinv⟩ := hrel
      clear HNEW
      by_cases hlt : i < ss.length
      · have hin := (HH.out.below HB1.out).below hinv.out.bel
        obtain ⟨b, off, hA, hbl, hc⟩ := HR.out.at_ hin hlt (by omega)
        subst hA
        have c0 : wr.cell? ⟨b, off + i * 4, none⟩ = some (.string ss[i].id) := hc 0 (by omega)
        have c1 : wr.cell? ⟨b, off + i * 4 + 1, none⟩ = some (.string ss[i].person) := hc 1 (by omega)
        have c2 : wr.cell? ⟨b, off + i * 4 + 2, none⟩ = some (.string ss[i].letter) := hc 2 (by omega)
        have c3 : wr.cell? ⟨b, off + i * 4 + 3, none⟩ = some (.int .i64 ss[i].at_) := hc 3 (by omega)
        have hks := HS.out _ (List.getElem_mem hlt)
        have HPUT : Hid (∀ w1 w2, AtI ss W1 i w1 → Mp Try.prog 9 w2 W1.heap.size (i + 1) (mpSet (atMp (ss.take i)) (codeLit ss[i].id) (.int .i64 i)) → w1.grownBy w2 (some W1.heap.size) → AtI ss W1 (i + 1) w2) := fun w1 w2 h1 h2 h3 => h1.put hlt (HSE.out.all i hlt) h2 h3
        clear hc hin
        generalize ss[i] = d at c0 c1 c2 c3 hks HPUT
        have HI2 := Lib.hid (hinv.out.call ((Below.refl _ _).alloc (Nat.le_refl _) (.cells #[.string d.id, .string d.person, .string d.letter, .int .i64 d.at_] 42)))
        have HY0 : Hid ((wr.alloc (.cells #[.string d.id, .string d.person, .string d.letter, .int .i64 d.at_] 42)).heap[wr.heap.size]? = some (.cells #[.string d.id, .string d.person, .string d.letter, .int .i64 d.at_] 42 (0, 0))) := heap_at rfl
        have HLT : Hid (i < maxLen) := by show _ < _; unfold maxLen; omega
        have HK1 := Lib.hid (strKey (s := d.id) (by omega))
        go_upto_region 10 with (fail)
        clear c0 c1 c2 c3
        generalize hg : wr.heap.size = g at HY0
        generalize wr.alloc _ = W2 at HI2 HY0
        have y0 : W2.cell? ⟨g, 0, none⟩ = some (.string d.id) := by simp [World.cell?, HY0.out]
        clear hg
        go_wp2_with (at_mapUpdate; refine wpList_mp_set _ rfl _ _ _ 49 rfl 9 3 strKeyed Try.underlying49 W1.heap.size i (atMp (ss.take i)) rfl HI2.out.map HLT.out _ _ _ rfl rfl HK1.out ?_; intro w5 hM5 hg5 hz5; have HI5 := Lib.hid (HPUT.out _ _ HI2.out hM5 hg5); clear hM5 hg5 hz5)
        go_roundw
        case rel => exact ⟨i + 1, by omega, by go_num, HI5⟩
        case measure => simp [intOf]; omega
      · have hie : i = ss.length := by omega
        subst hie
        have HAT : Hid (Mp Try.prog 9 wr W1.heap.size ss.length (atMp ss)) := by
          have := hinv.out.map
          rw [List.take_length] at this
          exact this
        have HBA := Lib.hid (HB1.out.trans (hinv.out.bel.mono HB1.out.size))
        have HINA := Lib.hid ((HH.out.below HB1.out).below hinv.out.bel)
        clear hinv hi hlt
        obtain ⟨wa, rfl⟩ : ∃ wa : World, wa = wr := ⟨_, rfl⟩
        go_wp2_with fail
        go_loopw [50] (fun t wr => ∃ k : Nat, k ≤ ac.length ∧ t = .int .i64 k ∧ Hid (Below wa.heap.size wa wr) ∧ Hid (∀ j, j < k → actAt ss ac j = 0)) (fun t _ => ac.length - (intOf t).toNat)
        case atStart => exact ⟨0, by omega, rfl, Below.refl _ _, fun j hj => by omega⟩
        case round =>
          obtain ⟨k, hk, rfl, hbw, hok⟩ := hrel
          by_cases hltk : k < ac.length
          · have hin := HINA.out.below hbw.out
            obtain ⟨b, off, hA, hbl, hc⟩ := HRA.out.at_ hin hltk (by omega)
            subst hA
            have c0 : wr.cell? ⟨b, off + k * 3, none⟩ = some (.string ac[k].sent) := hc 0 (by omega)
            have c1 : wr.cell? ⟨b, off + k * 3 + 1, none⟩ = some (.int .i64 ac[k].kind) := hc 1 (by omega)
            have c2 : wr.cell? ⟨b, off + k * 3 + 2, none⟩ = some (.int .i64 ac[k].at_) := hc 2 (by omega)
            have hks := HSA.out _ (List.getElem_mem hltk)
            have HERR := Lib.hid (actAt_eq (ss := ss) hltk)
            clear hc
            generalize ac[k] = d at c0 c1 c2 hks HERR
            obtain ⟨H2, hl2, hbx, hin2⟩ := hin.put (.cells #[.string d.sent, .int .i64 d.kind, .int .i64 d.at_] 47)
            have HB2 := Lib.hid (hbw.out.alloc hbw.out.size (.cells #[.string d.sent, .int .i64 d.kind, .int .i64 d.at_] 47))
            have HR2 := Lib.hid (HR.out.le hl2)
            have HBX := Lib.hid hbx
            have HIN2 := Lib.hid hin2
            have HK1 := Lib.hid (strKey (s := d.sent) (by omega))
            clear hl2 hbx hin2 hin
            go_upto_region 15 with (fail)
            clear c0 c1 c2
            generalize hg : wr.heap.size = g at HBX
            generalize wr.alloc _ = W2 at HB2 HIN2
            obtain ⟨z0, z1, z2⟩ := frz3 HIN2.out HBX.out
            have HM2 := Lib.hid (HAT.out.below HB2.out)
            have HBAD : Hid (∀ n : Int, actErr ss d = n → n ≠ 0 → StPost W ss ac span (.returned (.tuple #[.slice none 0 0, .int .i64 n])) W2) := fun n h1 h2 => StPost.bad h2 (Or.inr ⟨HSE.out, IsErr.bad hltk hok.out (HERR.out.trans h1) h2⟩) (HBA.out.trans (HB2.out.mono HBA.out.size))
            clear hg
            cases hix : idIx ss d.sent with
            | none =>
              have HCM : Hid (atMp ss (codeLit d.sent) = none) := by show _ = _; rw [atMp_at, hix]; rfl
              have HF := Lib.hid (HBAD.out 8 (by simp [actErr, hix]) (by omega))
              clear hix
              go_wp2_with (at_lookup; refine wpList_mp_no _ rfl _ _ 49 rfl 9 3 strKeyed Try.underlying49 _ (zeroInt _) W1.heap.size ss.length (atMp ss) rfl HM2.out _ _ rfl HK1.out HCM.out ?_)
              go_ret2
              exact HF.out
            | some i0 =>
              have HCM : Hid (atMp ss (codeLit d.sent) = some (.int .i64 (i0 : Nat))) := by show _ = _; rw [atMp_at, hix]; rfl
              have hi0 := idIx_lt hix
              have HIX := Lib.hid hix
              clear hix
              go_wp2_with (at_lookup; refine wpList_mp_yes _ rfl _ _ 49 rfl 9 3 strKeyed Try.underlying49 _ (zeroInt _) W1.heap.size ss.length (atMp ss) rfl HM2.out _ _ rfl HK1.out _ HCM.out ?_)
              refine (mAct_any _ _).mono ?_
              rintro e w' ⟨rfl, rfl⟩
              by_cases m1 : 1 ≤ d.kind ∧ d.kind ≤ 4
              · rw [show (decide (1 ≤ d.kind) && decide (d.kind ≤ 4)) = true from by simp; omega]
                go_wp2_with fail
                refine (mMoment_any _ _).mono ?_
                rintro e w' ⟨rfl, rfl⟩
                by_cases m2 : 0 ≤ d.at_ ∧ d.at_ ≤ 4321439
                · rw [show (decide (0 ≤ d.at_) && decide (d.at_ ≤ 4321439)) = true from by simp; omega]
                  obtain ⟨bs, os, hAs, hbls, hcs⟩ := HR2.out.at_ HIN2.out hi0 (by omega)
                  subst hAs
                  have s3 : W2.cell? ⟨bs, os + i0 * 4 + 3, none⟩ = some (.int .i64 ss[i0].at_) := hcs 3 (by omega)
                  have HATO := Lib.hid (atOf_eq hi0)
                  have HE : Hid (actErr ss d = if d.at_ < atOf ss i0 then 7 else 0) := by
                    show _ = _
                    simp [actErr, HIX.out, m1, m2]
                  generalize ss[i0].at_ = sa at s3 HATO
                  have j1 : (i0 : Int) < ss.length := by omega
                  have j2 : (0 : Int) ≤ (i0 : Int) := by omega
                  clear hcs m1 m2
                  by_cases hla2 : d.at_ < sa
                  · have e1 : decide (d.at_ < sa) = true := by simpa using hla2
                    have HF := Lib.hid (HBAD.out 7 (by rw [HE.out, HATO.out, if_pos hla2]) (by omega))
                    go_upto_region 22 with (fail)
                    go_quiet (fail)
                    have HF2 : Hid (StPost W ss ac span (.returned (.tuple #[.slice none 0 0, .int .i64 7])) (W2.drewN nq)) := by
                      obtain ⟨h1, h2⟩ := HF.out
                      rcases h2 with h2 | ⟨_, v, hv, _⟩
                      · exact ⟨below_drewN h1 nq, Or.inl h2⟩
                      · simp at hv
                    clear HF
                    go_wp2_with fail
                    go_ret2
                    exact HF2.out
                  · have e1 : decide (d.at_ < sa) = false := by simpa using hla2
                    have HOK : Hid (actAt ss ac k = 0) := by
                      show _ = _
                      rw [HERR.out, HE.out, HATO.out, if_neg hla2]
                    clear hla2
                    go_upto_region 22 with (fail)
                    go_quiet (fail)
                    have HB3 := Lib.hid (below_drewN HB2.out nq)
                    go_wp2_with fail
                    go_roundw
                    case rel => exact ⟨k + 1, by omega, by go_num, HB3, errStep hok.out HOK.out⟩
                    case measure => simp [intOf]; omega
                · rw [show (decide (0 ≤ d.at_) && decide (d.at_ ≤ 4321439)) = false from by simp; omega]
                  have HF := Lib.hid (HBAD.out 1 (by simp only [actErr, HIX.out]; rw [if_neg (by simpa using m1), if_pos m2]) (by omega))
                  go_wp2_with fail
                  go_ret2
                  exact HF.out
              · rw [show (decide (1 ≤ d.kind) && decide (d.kind ≤ 4)) = false from by simp; omega]
                have HF := Lib.hid (HBAD.out 4 (by simp only [actErr, HIX.out]; rw [if_pos m1]) (by omega))
                go_wp2_with fail
                go_ret2
                exact HF.out
          · have hke : k = ac.length := by omega
            subst hke
            have HAC : Hid (IsErr (actAt ss ac) ac.length 0) := IsErr.good hok.out
            have HBB := Lib.hid (HBA.out.trans (hbw.out.mono HBA.out.size))
            have HINB := Lib.hid (HINA.out.below hbw.out)
            have HMB := Lib.hid (HAT.out.below hbw.out)
            clear hbw hok hk hltk HINA HAT HBA
            obtain ⟨wb, rfl⟩ : ∃ wb : World, wb = wr := ⟨_, rfl⟩
            go_wp2_with fail
            refine (mwithin_any _ _ _ _).mono ?_
            rintro e w' ⟨rfl, rfl⟩
            rw [show (decide (0 ≤ span) && decide (span ≤ 4321440)) = true from by simp; omega]
            obtain ⟨j0, hj0, hy0, hy1, hy2⟩ := info_parts infoDid
            go_wp2_with (at_make; refine wpList_make_full _ rfl _ _ 52 rfl wb.heap.size 53 j0 (.agg #[.bool false, .bool false, .bool false, .bool false, .bool false]) 5 Try.underlying52 hj0 hy0 hy1 _ _ _ _ ss.length rfl rfl rfl rfl (by rw [hy2]; omega) (by simp only [maxLen]; omega) (Nat.le_refl _) ?_; intro w2 hown2 hgrow2; have HD0 := Lib.hid (DI.new (ac := ac) (span := span) hown2 hgrow2); clear hown2 hgrow2)
            clear hj0 hy0 hy1 hy2
            go_loopw [92] (fun t wr => ∃ k : Nat, k ≤ ac.length ∧ t = .int .i64 k ∧ Hid (DI ss ac span wb k wr)) (fun t _ => ac.length - (intOf t).toNat)
            case atStart => exact ⟨0, by omega, rfl, HD0⟩
            case round =>
              obtain ⟨k, hk, rfl, hdi⟩ := hrel
              clear HD0
              by_cases hltk : k < ac.length
              · have hin := HINB.out.below hdi.out.bel
                obtain ⟨b, off, hA, hbl, hc⟩ := HRA.out.at_ hin hltk (by omega)
                subst hA
                have c0 : wr.cell? ⟨b, off + k * 3, none⟩ = some (.string ac[k].sent) := hc 0 (by omega)
                have c1 : wr.cell? ⟨b, off + k * 3 + 1, none⟩ = some (.int .i64 ac[k].kind) := hc 1 (by omega)
                have c2 : wr.cell? ⟨b, off + k * 3 + 2, none⟩ = some (.int .i64 ac[k].at_) := hc 2 (by omega)
                have hks := HSA.out _ (List.getElem_mem hltk)
                have hae := HAC.out.all k hltk
                rw [actAt_eq hltk] at hae
                obtain ⟨i0, hix, m1, m2, m3, m4⟩ := actErr_ok hae
                obtain ⟨kd, hkd⟩ : ∃ kd : Nat, ac[k].kind = (kd : Int) := ⟨ac[k].kind.toNat, by omega⟩
                rw [hkd] at c1
                have hi0 := idIx_lt hix
                have hkd5 : kd < 5 := by omega
                have HPUT : Hid (∀ w1, DI ss ac span wb k w1 → ac[k].at_ - atOf ss i0 ≤ span → (∃ b, w1.cell? ⟨wb.heap.size, i0 * 5 + kd, none⟩ = some (.bool b)) ∧ w1.frozen? ⟨wb.heap.size, i0 * 5 + kd, none⟩ = false ∧ DI ss ac span wb (k + 1) (w1.setCell ⟨wb.heap.size, i0 * 5 + kd, none⟩ (.bool true))) := fun w1 h1 h2 => h1.put hltk hix h2 hkd hkd5
                have HPASS : Hid (∀ w1, DI ss ac span wb k w1 → ¬ ac[k].at_ - atOf ss i0 ≤ span → DI ss ac span wb (k + 1) w1) := fun w1 h1 h2 => h1.pass hltk hix h2
                have HCM : Hid ((atMp ss (codeLit ac[k].sent)).getD (.int .i64 0) = .int .i64 (i0 : Nat)) := by show _ = _; rw [atMp_at, hix]; rfl
                have HATO := Lib.hid (atOf_eq hi0)
                have hsb := HS.out _ (List.getElem_mem hi0)
                clear hc hae hix hkd
                generalize ac[k] = d at c0 c2 hks m1 m2 m3 m4 HPUT HPASS HCM
                obtain ⟨H2, hl2, hbx, hin2⟩ := hin.put (.cells #[.string d.sent, .int .i64 kd, .int .i64 d.at_] 47)
                have HD2 := Lib.hid (hdi.out.call ((Below.refl _ _).alloc (Nat.le_refl _) (.cells #[.string d.sent, .int .i64 kd, .int .i64 d.at_] 47)))
                have HR2 := Lib.hid (HR.out.le hl2)
                have HBX := Lib.hid hbx
                have HIN2 := Lib.hid hin2
                have HK1 := Lib.hid (strKey (s := d.sent) (by omega))
                clear hl2 hbx hin2 hin
                go_upto_region 31 with (fail)
                clear c0 c1 c2
                generalize hg : wr.heap.size = g at HBX
                generalize wr.alloc _ = W2 at HD2 HIN2
                obtain ⟨z0, z1, z2⟩ := frz3 HIN2.out HBX.out
                have HM2 := Lib.hid (HMB.out.below HD2.out.bel)
                obtain ⟨bs, os, hAs, hbls, hcs⟩ := HR2.out.at_ HIN2.out hi0 (by omega)
                subst hAs
                have s3 : W2.cell? ⟨bs, os + i0 * 4 + 3, none⟩ = some (.int .i64 ss[i0].at_) := hcs 3 (by omega)
                generalize ss[i0].at_ = sa at s3 HATO hsb
                have j1 : (i0 : Int) < ss.length := by omega
                have j2 : (0 : Int) ≤ (i0 : Int) := by omega
                have j3 : IntKind.i64.wrap (d.at_ - sa) = d.at_ - sa := IntWalk.i64_in _ (by omega)
                clear hcs hg hsb hks m1 m2 m3 m4
                by_cases hw : d.at_ - sa ≤ span
                · have e1 : decide (d.at_ - sa ≤ span) = true := by simpa using hw
                  have HW : Hid (d.at_ - atOf ss i0 ≤ span) := by show _ ≤ _; rw [HATO.out]; exact hw
                  clear hw
                  go_upto_region 32 with (at_lookup; refine wpList_mp_getv _ rfl _ _ 49 rfl 9 3 strKeyed Try.underlying49 (.int .i64 0) (zeroInt _) W1.heap.size ss.length (atMp ss) rfl HM2.out _ _ rfl HK1.out _ HCM.out ?_)
                  go_quiet (fail)
                  have HD3 := Lib.hid (HD2.out.call (below_drewN (Below.refl _ _) nq))
                  have HIN3 := Lib.hid (HIN2.out.drewN nq)
                  clear z0 z1 z2 s3 j3 e1
                  have HIN4 : Hid (H2.In (W2.drewN nq)) := HIN3.out
                  clear HIN3 HIN2 HD2 HM2
                  generalize W2.drewN nq = W3 at HD3 HIN4
                  obtain ⟨z0, z1, z2⟩ := frz3 HIN4.out HBX.out
                  obtain ⟨⟨b5, y5⟩, f5, hd5⟩ := HPUT.out W3 HD3.out HW.out
                  have HD5 := Lib.hid (hd5.call (Below.refl _ _).drew)
                  have n1 : (kd : Int) < 5 := by omega
                  have n2 : (0 : Int) ≤ (kd : Int) := by omega
                  clear hd5 z0 z2
                  go_upto_region 33 with (fail)
                  go_region
                  go_wp2_with fail
                  go_roundw
                  case rel => exact ⟨k + 1, by omega, by go_num, HD5⟩
                  case measure => simp [intOf]; omega
                · have e1 : decide (d.at_ - sa ≤ span) = false := by simpa using hw
                  have HD5 := Lib.hid (HPASS.out _ HD2.out (by rw [HATO.out]; exact hw))
                  clear hw
                  go_upto_region 32 with (at_lookup; refine wpList_mp_getv _ rfl _ _ 49 rfl 9 3 strKeyed Try.underlying49 (.int .i64 0) (zeroInt _) W1.heap.size ss.length (atMp ss) rfl HM2.out _ _ rfl HK1.out _ HCM.out ?_)
                  go_quiet (fail)
                  have HD6 := Lib.hid (HD5.out.call (below_drewN (Below.refl _ _) nq))
                  clear HD5 j3 e1
                  go_wp2_with fail
                  go_roundw
                  case rel => exact ⟨k + 1, by omega, by go_num, HD6⟩
                  case measure => simp [intOf]; omega
              · have hke : k = ac.length := by omega
                subst hke
                obtain ⟨Ad, capd, Hd, hvd, hcd, q1, q2, hRd, q3, -⟩ := hdi.out.row.freeze H
                have hind := q1 (HINB.out.below hdi.out.bel)
                have hled := q2 (fun q hq => by
                  simp only [Value.ownBlock] at hq
                  exact HINB.out.none_ (by injection hq with hq; omega))
                rw [List.take_length] at hvd hRd
                rw [didL_len] at hvd
                simp only [Value.slice.injEq] at hvd
                obtain ⟨rfl, -, -⟩ := hvd
                have HRD := Lib.hid hRd
                have HIND := Lib.hid hind
                have HRS := Lib.hid (HR.out.le hled)
                have HBD := Lib.hid (HBB.out.trans (hdi.out.bel.mono HBB.out.size))
                clear hdi q1 q2 q3 hRd hind hled hcd hk hltk HMB HINB HBB
                obtain ⟨wd, rfl⟩ : ∃ wd : World, wd = wr := ⟨_, rfl⟩
                have hmm := @run_makeMap Try.prog
                have HNEW4 := Lib.hid (RI.new ss (didB ss ac span) wd)
                go_wp2_with fail
                clear hmm
                go_loopw [120] (fun t wr => ∃ (i : Nat) (ps : List (List UInt8 × Nat)), i ≤ ss.length ∧ t = .int .i64 i ∧ Hid (RI ss (didB ss ac span) wd i ps wr)) (fun t _ => ss.length - (intOf t).toNat)
                case atStart => exact ⟨0, [], by omega, rfl, HNEW4⟩
                case round =>
                  obtain ⟨i, ps, hi, rfl, hri⟩ := hrel
                  clear HNEW4
                  by_cases hlt : i < ss.length
                  · have hin := HIND.out.below hri.out.bel
                    obtain ⟨b, off, hA, hbl, hc⟩ := HRS.out.at_ hin hlt (by omega)
                    subst hA
                    have c0 : wr.cell? ⟨b, off + i * 4, none⟩ = some (.string ss[i].id) := hc 0 (by omega)
                    have c1 : wr.cell? ⟨b, off + i * 4 + 1, none⟩ = some (.string ss[i].person) := hc 1 (by omega)
                    have c2 : wr.cell? ⟨b, off + i * 4 + 2, none⟩ = some (.string ss[i].letter) := hc 2 (by omega)
                    have c3 : wr.cell? ⟨b, off + i * 4 + 3, none⟩ = some (.int .i64 ss[i].at_) := hc 3 (by omega)
                    have hks := HS.out _ (List.getElem_mem hlt)
                    have HOLD : Hid (∀ (p : List UInt8 × Nat) (w1 w2 : World), RI ss (didB ss ac span) wd i ps w1 → p ∈ ps → ss[i].letter.data.toList = p.1 → w1.grownBy w2 (some p.2) → w2.heap[p.2]? = some (.cells (rowCells (stepRow (rowN ss (didB ss ac span) p.1 i) (didB ss ac span i 1) (didB ss ac span i 2) (didB ss ac span i 3) (didB ss ac span i 4))) 36 (0, 0)) → RI ss (didB ss ac span) wd (i + 1) ps w2) := fun p w1 w2 h1 h2 h3 h4 h5 => h1.old hlt h2 h3 h4 h5
                    have HNEWL : Hid (∀ (k : List UInt8) (g : Nat) (w1 w2 w3 : World), RI ss (didB ss ac span) wd i ps w1 → ss[i].letter.data.toList = k → ¬ k ∈ lets ss i → wd.heap.size < g → (∀ p ∈ ps, p.2 ≠ g) → Mp Try.prog 9 w2 wd.heap.size (i + 1) (mpSet (ptrMp ps) (.string k) (.pointer (some ⟨g, 0, none⟩))) → w1.grownBy w2 (some wd.heap.size) → w2.grownBy w3 (some g) → w3.heap[g]? = some (.cells (rowCells (stepRow (rowN ss (didB ss ac span) k i) (didB ss ac span i 1) (didB ss ac span i 2) (didB ss ac span i 3) (didB ss ac span i 4))) 36 (0, 0)) → RI ss (didB ss ac span) wd (i + 1) (ps ++ [(k, g)]) w3) := fun k g w1 w2 w3 h1 h2 h3 h4 h5 h6 h7 h8 h9 => h1.fresh hlt h2 h3 h4 h5 h6 h7 h8 h9
                    clear hc
                    generalize ss[i] = d at c0 c1 c2 c3 hks HOLD HNEWL
                    have hrl := rowN_le ss (didB ss ac span) d.letter.data.toList i
                    obtain ⟨H2, hl2, hbx, hin2⟩ := hin.put (.cells #[.string d.id, .string d.person, .string d.letter, .int .i64 d.at_] 42)
                    have HI2 := Lib.hid (hri.out.alloc (.cells #[.string d.id, .string d.person, .string d.letter, .int .i64 d.at_] 42))
                    have HIN2D := Lib.hid (hin2.le hl2)
                    have HBX := Lib.hid hbx
                    have HIN2 := Lib.hid hin2
                    have HK1 := Lib.hid (strKey (s := d.letter) (by omega))
                    have HLT : Hid (i < maxLen) := by show _ < _; unfold maxLen; omega
                    clear hl2 hbx hin2 hin
                    go_upto_region 39 with (fail)
                    clear c0 c1 c2 c3
                    generalize hg : wr.heap.size = g at HBX
                    generalize wr.alloc _ = W2 at HI2 HIN2 HIN2D
                    obtain ⟨z0, z1, z2, z3⟩ := frz4 HIN2.out HBX.out
                    have hgl : g < W2.heap.size := HIN2.out.lt HBX.out
                    clear hg
                    have hid : i < (didL ss ac span).length := by rw [didL_len]; exact hlt
                    have HDC : Hid (∀ (W3 : World), Hd.In W3 → ∀ j, j < 5 → W3.cell? ⟨wb.heap.size, i * 5 + j, none⟩ = some (.bool (didB ss ac span i j))) := by
                      intro W3 hW3 j hj
                      obtain ⟨b', off', hA', _, hc'⟩ := HRD.out.at_ hW3 hid (by omega)
                      simp only [Option.some.injEq, Addr.mk.injEq] at hA'
                      obtain ⟨rfl, rfl, _⟩ := hA'
                      have := hc' j hj
                      rw [didL_at] at this
                      simpa [fD] using this
                    have q1 : (i : Int) < ss.length := by omega
                    by_cases hmem : d.letter.data.toList ∈ lets ss i
                    · obtain ⟨p, hp, hpk⟩ := HI2.out.mem hmem
                      have HCM : Hid ((ptrMp ps (codeLit d.letter)).getD (.pointer none) = .pointer (some ⟨p.2, 0, none⟩)) := by
                        show _ = _
                        rw [show codeLit d.letter = .string p.1 from by rw [hpk]; rfl, ptrMp_some HI2.out.nodup hp]
                        rfl
                      have HBK := Lib.hid (HI2.out.blk p hp).2
                      have HP := Lib.hid hp
                      have HPK := Lib.hid hpk.symm
                      have e0 : W2.cell? ⟨wb.heap.size, i * 5, none⟩ = some (.bool (didB ss ac span i 0)) := HDC.out W2 HIN2D.out 0 (by omega)
                      have e1 : W2.cell? ⟨wb.heap.size, i * 5 + 1, none⟩ = some (.bool (didB ss ac span i 1)) := HDC.out W2 HIN2D.out 1 (by omega)
                      have e2 : W2.cell? ⟨wb.heap.size, i * 5 + 2, none⟩ = some (.bool (didB ss ac span i 2)) := HDC.out W2 HIN2D.out 2 (by omega)
                      have e3 : W2.cell? ⟨wb.heap.size, i * 5 + 3, none⟩ = some (.bool (didB ss ac span i 3)) := HDC.out W2 HIN2D.out 3 (by omega)
                      have e4 : W2.cell? ⟨wb.heap.size, i * 5 + 4, none⟩ = some (.bool (didB ss ac span i 4)) := HDC.out W2 HIN2D.out 4 (by omega)
                      rw [← hpk] at hrl
                      clear hmem hp hpk
                      go_wp2_with (at_lookup; refine wpList_mp_getv _ rfl _ _ 54 rfl 9 55 strKeyed Try.underlying54 (.pointer none) (zeroPtr _) wd.heap.size i (ptrMp ps) rfl HI2.out.map _ _ rfl HK1.out _ HCM.out ?_)
                      refine (count_any p.2 (rowN ss (didB ss ac span) p.1 i) (didB ss ac span i 0) (didB ss ac span i 1) (didB ss ac span i 2) (didB ss ac span i 3) (didB ss ac span i 4) W2 HBK.out (by omega) (by omega) (by omega) (by omega) (by omega)).mono ?_
                      rintro e W3 ⟨rfl, hr, hg3⟩
                      have HI5 := Lib.hid (HOLD.out p W2 W3 HI2.out HP.out HPK.out hg3 hr)
                      clear hr hg3 e0 e1 e2 e3 e4 z0 z1 z2 z3
                      go_wp2_with fail
                      go_roundw
                      case rel => exact ⟨i + 1, ps, by omega, by go_num, HI5⟩
                      case measure => simp [intOf]; omega
                    · have HCM : Hid ((ptrMp ps (codeLit d.letter)).getD (.pointer none) = .pointer none) := by
                        show _ = _
                        rw [show codeLit d.letter = .string d.letter.data.toList from rfl, ptrMp_none (by rw [HI2.out.fst]; exact hmem)]
                        rfl
                      have HMEM := Lib.hid hmem
                      have HROW : Hid (rowN ss (didB ss ac span) d.letter.data.toList i = ⟨d.letter.data.toList, 0, 0, 0, 0, 0⟩) := rowN_new hmem
                      have HI3 := Lib.hid (HI2.out.alloc (.cells #[.string d.letter, .int .i64 0, .int .i64 0, .int .i64 0, .int .i64 0, .int .i64 0] 36))
                      have HIN3 := Lib.hid (HIN2.out.alloc (.cells #[.string d.letter, .int .i64 0, .int .i64 0, .int .i64 0, .int .i64 0, .int .i64 0] 36))
                      have HBK3 : Hid ((W2.alloc (.cells #[.string d.letter, .int .i64 0, .int .i64 0, .int .i64 0, .int .i64 0, .int .i64 0] 36)).heap[W2.heap.size]? = some (.cells #[.string d.letter, .int .i64 0, .int .i64 0, .int .i64 0, .int .i64 0, .int .i64 0] 36 (0, 0))) := heap_at rfl
                      have HNE : Hid (∀ p ∈ ps, p.2 ≠ W2.heap.size) := fun p hp => by have := HI2.out.size_lt hp; omega
                      have hwd : wd.heap.size < W2.heap.size := by have := HI2.out.map.lt; omega
                      clear hmem
                      go_upto_region 42 with (at_lookup; refine wpList_mp_getv _ rfl _ _ 54 rfl 9 55 strKeyed Try.underlying54 (.pointer none) (zeroPtr _) wd.heap.size i (ptrMp ps) rfl HI2.out.map _ _ rfl HK1.out _ HCM.out ?_)
                      generalize hg4 : W2.heap.size = g4 at HBK3 HNE hwd
                      have HIN3' : Hid (H2.In (W2.alloc (.cells #[.string d.letter, .int .i64 0, .int .i64 0, .int .i64 0, .int .i64 0, .int .i64 0] 36))) := HIN3.out
                      clear HIN3
                      generalize W2.alloc _ = W3 at HI3 HIN3' HBK3
                      clear z0 z1 z2 z3 hg4
                      obtain ⟨z0, z1, z2, z3⟩ := frz4 HIN3'.out HBX.out
                      go_upto_region 43 with (at_mapUpdate; refine wpList_mp_set _ rfl _ _ _ 54 rfl 9 55 strKeyed Try.underlying54 wd.heap.size i (ptrMp ps) rfl HI3.out.map HLT.out _ _ _ rfl rfl HK1.out ?_; intro W4 hM5 hg5 hz5; have HM5 := Lib.hid hM5; have HG5 := Lib.hid hg5; clear hM5 hg5 hz5)
                      have hne4 : g4 ≠ wd.heap.size := by omega
                      have HBK4 : Hid (W4.heap[g4]? = some (.cells (rowCells (rowN ss (didB ss ac span) d.letter.data.toList i)) 36 (0, 0))) := by
                        show _ = _
                        rw [HG5.out.block g4 (lt_of_heap HBK3.out) (fun c => by injection c with c; omega), HBK3.out, HROW.out]
                        simp only [rowCells, str_back]
                        rfl
                      have HIN4 := Lib.hid ((HIND.out.below HI3.out.bel).grown HG5.out (HIND.out.none_ (Nat.le_refl _)))
                      have e0 : W4.cell? ⟨wb.heap.size, i * 5, none⟩ = some (.bool (didB ss ac span i 0)) := HDC.out W4 HIN4.out 0 (by omega)
                      have e1 : W4.cell? ⟨wb.heap.size, i * 5 + 1, none⟩ = some (.bool (didB ss ac span i 1)) := HDC.out W4 HIN4.out 1 (by omega)
                      have e2 : W4.cell? ⟨wb.heap.size, i * 5 + 2, none⟩ = some (.bool (didB ss ac span i 2)) := HDC.out W4 HIN4.out 2 (by omega)
                      have e3 : W4.cell? ⟨wb.heap.size, i * 5 + 3, none⟩ = some (.bool (didB ss ac span i 3)) := HDC.out W4 HIN4.out 3 (by omega)
                      have e4 : W4.cell? ⟨wb.heap.size, i * 5 + 4, none⟩ = some (.bool (didB ss ac span i 4)) := HDC.out W4 HIN4.out 4 (by omega)
                      clear z0 z1 z2 z3
                      go_wp2_with fail
                      refine (count_any g4 (rowN ss (didB ss ac span) d.letter.data.toList i) (didB ss ac span i 0) (didB ss ac span i 1) (didB ss ac span i 2) (didB ss ac span i 3) (didB ss ac span i 4) W4 HBK4.out (by omega) (by omega) (by omega) (by omega) (by omega)).mono ?_
                      rintro e W5 ⟨rfl, hr, hg6⟩
                      have HI5 := Lib.hid (HNEWL.out d.letter.data.toList g4 W3 W4 W5 HI3.out rfl HMEM.out hwd HNE.out HM5.out HG5.out hg6 hr)
                      clear hr hg6 e0 e1 e2 e3 e4
                      go_wp2_with fail
                      go_roundw
                      case rel => exact ⟨i + 1, _, by omega, by go_num, HI5⟩
                      case measure => simp [intOf]; omega
                  · have hie : i = ss.length := by omega
                    subst hie
                    have HBE := Lib.hid (HBD.out.trans (hri.out.bel.mono HBD.out.size))
                    have HRI := Lib.hid hri.out
                    clear hri hi hlt
                    obtain ⟨we, rfl⟩ : ∃ we : World, we = wr := ⟨_, rfl⟩
                    go_wp2_with fail
                    refine (keys_any _ _).mono ?_
                    rintro e w' ⟨rfl, rfl⟩
                    go_wp2_with fail
                    refine (sorted_any wd.heap.size ss.length (ptrMp ps) we HRI.out.map (by omega) (lets ss ss.length) (lets_nodup ss _) (fun x => HRI.out.isSome x)).mono ?_
                    rintro e W6 ⟨⟨v, rfl, hO⟩, hb6⟩
                    have hskm : ∀ k ∈ (lets ss ss.length).mergeSort leB, k ∈ lets ss ss.length := fun k hk => (List.mergeSort_perm _ _).mem_iff.1 hk
                    have hskl : ((lets ss ss.length).mergeSort leB).length ≤ 1000 := by
                      rw [List.length_mergeSort]
                      have := lets_len ss ss.length
                      omega
                    have HRW : Hid (rowsOf ss ac span = ((lets ss ss.length).mergeSort leB).map (fun k => rowN ss (didB ss ac span) k ss.length)) := rfl
                    obtain ⟨Ak, capk, Hk, hvk, hck, q1, q2, hRk, q3, -⟩ := hO.freeze Frz.empty
                    subst hvk
                    have HINK := Lib.hid (q1 (Frz.In.empty _))
                    have HRK := Lib.hid hRk
                    have HSKM := Lib.hid hskm
                    have HR6 := Lib.hid (HRI.out.call hb6)
                    have HB6 := Lib.hid (HBE.out.trans (hb6.mono HBE.out.size))
                    generalize hsk : (lets ss ss.length).mergeSort leB = sk at *
                    clear hO hb6 q1 q2 q3 hRk hskm hsk HRI HBE
                    obtain ⟨i6, hi6, hz60, hz61, hz62⟩ := info_parts infoRow
                    have hrs : (rowsOf ss ac span).length = sk.length := by rw [HRW.out]; simp
                    have HRS2 : Hid (∀ j (h : j < sk.length) (h' : j < (rowsOf ss ac span).length), (rowsOf ss ac span)[j] = rowN ss (didB ss ac span) sk[j] ss.length) := by
                      intro j h h'
                      simp only [HRW.out, List.getElem_map]
                    generalize hrsq : rowsOf ss ac span = rs at hrs HRS2
                    have HRSQ := Lib.hid hrsq
                    clear hrsq
                    have HO0 : Hid (OI W6 rs 0 (.slice none 0 0) W6) := ⟨Below.refl _ _, Orow.nil _ _ _ _ _⟩
                    have HRSL := Lib.hid hrs
                    clear hrs HRW
                    go_wp2_with fail
                    go_loopw [24, 150] (fun v t wr => ∃ j : Nat, j ≤ sk.length ∧ t = .int .i64 j ∧ Hid (OI W6 rs j v wr)) (fun _ t _ => sk.length - (intOf t).toNat)
                    case atStart => exact ⟨0, by omega, rfl, HO0⟩
                    case round =>
                      obtain ⟨j, hj, rfl, hoi⟩ := hrel
                      clear HO0
                      by_cases hltj : j < sk.length
                      · have hink := HINK.out.below hoi.out.bel
                        obtain ⟨bk, ok, hA, hblk, hc⟩ := HRK.out.at_ hink hltj (by omega)
                        subst hA
                        have c0 : wr.cell? ⟨bk, ok + j, none⟩ = some (.string ⟨sk[j].toArray⟩) := by simpa [fK] using hc 0 (by omega)
                        have hmem := HSKM.out sk[j] (List.getElem_mem hltj)
                        have HR7 := HR6.out.call hoi.out.bel
                        obtain ⟨p, hp, hpk⟩ := HR7.mem hmem
                        obtain ⟨sx, hsx, hsl⟩ := lets_mem hmem
                        have hszk : (⟨sk[j].toArray⟩ : ByteArray).size ≤ 1000 := by
                          rw [← hsl, str_back]
                          exact (HS.out sx hsx).2.2.1
                        have HK1 := Lib.hid (strKey (s := ⟨sk[j].toArray⟩) (by omega))
                        have HCM : Hid ((ptrMp ps (codeLit ⟨sk[j].toArray⟩)).getD (.pointer none) = .pointer (some ⟨p.2, 0, none⟩)) := by
                          show _ = _
                          rw [show codeLit ⟨sk[j].toArray⟩ = .string p.1 from by rw [hpk]; rfl, ptrMp_some HR7.nodup hp]
                          rfl
                        have hblkp := (HR7.blk p hp).2
                        have hjr : j < rs.length := by rw [HRSL.out]; exact hltj
                        have HRJ : Hid (rs[j] = rowN ss (didB ss ac span) p.1 ss.length) := by show _ = _; rw [HRS2.out j hltj hjr, hpk]
                        have HTK : Hid (rs.take (j + 1) = rs.take j ++ [rs[j]]) := List.take_succ_eq_append_getElem hjr
                        have HM7 := Lib.hid HR7.map
                        have HTL : Hid ((rs.take j).length = j) := by show _ = _; simp; omega
                        generalize rowN ss (didB ss ac span) p.1 ss.length = r at hblkp HRJ
                        have y0 : wr.cell? ⟨p.2, 0, none⟩ = some (.string ⟨r.letter.toArray⟩) := by simp [World.cell?, hblkp, rowCells]
                        have y1 : wr.cell? ⟨p.2, 1, none⟩ = some (.int .i64 r.sent) := by simp [World.cell?, hblkp, rowCells]
                        have y2 : wr.cell? ⟨p.2, 2, none⟩ = some (.int .i64 r.opened) := by simp [World.cell?, hblkp, rowCells]
                        have y3 : wr.cell? ⟨p.2, 3, none⟩ = some (.int .i64 r.clicked) := by simp [World.cell?, hblkp, rowCells]
                        have y4 : wr.cell? ⟨p.2, 4, none⟩ = some (.int .i64 r.bought) := by simp [World.cell?, hblkp, rowCells]
                        have y5 : wr.cell? ⟨p.2, 5, none⟩ = some (.int .i64 r.left) := by simp [World.cell?, hblkp, rowCells]
                        have HO := Lib.hid hoi.out.row
                        have hB6 : W6.heap.size ≤ wr.heap.size := hoi.out.bel.size
                        have hlr : (rs.take j).length ≤ 4294967296 := by rw [HTL.out]; omega
                        have HAPP : Hid (∀ v1 w2, Orow w2 W6.heap.size 36 6 fRow v1 (rs.take j ++ [r]) → Below W6.heap.size wr w2 → OI W6 rs (j + 1) v1 w2) := fun v1 w2 h1 h2 => ⟨hoi.out.bel.trans h2, by rw [HTK.out, HRJ.out]; exact h1⟩
                        clear hc hink hmem HR7 hp hpk hsx hsl hszk hblkp hoi
                        generalize (⟨sk[j].toArray⟩ : ByteArray) = kb at c0 HK1 HCM
                        go_wp2_with (first | (at_lookup; refine wpList_mp_getv _ rfl _ _ 54 rfl 9 55 strKeyed Try.underlying54 (.pointer none) (zeroPtr _) wd.heap.size ss.length (ptrMp ps) rfl HM7.out _ _ rfl HK1.out _ HCM.out ?_) | (at_builtin; refine wpList_app_at rfl _ _ 31 rfl W6.heap.size 36 i6 (.agg #[.string ⟨#[]⟩, .int .i64 0, .int .i64 0, .int .i64 0, .int .i64 0, .int .i64 0]) 6 56 Try.underlying31 hi6 hz60 hz61 hz62 rfl (by decide) fRow _ (rs.take j) rfl HO.out r #[.string ⟨r.letter.toArray⟩, .int .i64 r.sent, .int .i64 r.opened, .int .i64 r.clicked, .int .i64 r.bought, .int .i64 r.left] 36 rfl rfl (by simp [Value.oneCell']) hlr (by omega) hB6 ?_; intro v1 w2 o1 g1 b1 at1; have HI9 := Lib.hid (HAPP.out v1 w2 o1 b1); clear o1 g1 b1 at1 c0 y0 y1 y2 y3 y4 y5))
                        go_roundw
                        case rel => exact ⟨j + 1, by omega, by go_num, HI9⟩
                        case measure => simp [intOf]; omega
                      · have hje : j = sk.length := by omega
                        subst hje
                        have HF : Hid (StPost W ss ac span (.returned (.tuple #[u24, .int .i64 0])) wr) := by
                          refine ⟨HB6.out.trans (hoi.out.bel.mono HB6.out.size), Or.inr ⟨Or.inr ⟨HSE.out, HAC.out⟩, u24, rfl, ?_⟩⟩
                          have h1 := hoi.out.row.mono HB6.out.size
                          rw [show rs.take sk.length = rs from by rw [← HRSL.out]; exact List.take_length] at h1
                          rw [HRSQ.out]
                          exact h1
                        go_wp2_with fail
                        go_ret2
                        exact HF.out
  · have hne : (k != 0) = true := by simpa using k0
    have HF := Lib.hid (StPost.bad (ac := ac) (span := span) k0 (Or.inl ⟨k0, hk⟩) hb1)
    clear hk hb1 k0
    go_wp2_with fail
    go_ret2
    exact HF.out
end Go.Proofs.Ytecbejmeejepmaa
