/- Texts of this claim, put together: OffTag, OffChk, BasChk, StrMp, OffFit, OffFit2, OffTog. -/
import Derived.Test.YtihcmifikbkbcaaGreatPB
import Derived.Test.YtihcmifikbkbcaaGreatPA
import Derived.Test.YtihcmifikbkbcaaGreatShelf
import Derived.WalkLawsBesides
import Derived.StringKeys
/- Offers and baskets: what is wrong with them; what matches. -/
namespace Go.Proofs.YtihcmifikbkbcaaGreat
set_option linter.unusedVariables false
open Go.RowKit
def fOf (d : OfD) : Nat → Value
  | 0 => .string d.key
  | 1 => .int .i64 d.kind
  | 2 => .int .i64 d.a
  | 3 => .int .i64 d.b
  | 4 => .slice d.ta d.tags.length d.tc
  | 5 => .int .i64 d.least
  | 6 => .int .i64 d.most
  | 7 => .string d.group
  | 8 => .bool d.alone
  | 9 => .int .i64 d.order
  | 10 => .int .i64 d.first
  | _ => .int .i64 d.last
def fIt (d : ItD) : Nat → Value
  | 0 => .string d.key
  | 1 => .int .i64 d.cents
  | 2 => .int .i64 d.many
  | _ => .slice d.ta d.tags.length d.tc
/-- An offer that can be read. -/
structure OfIn (H : Frz) (d : OfD) : Prop where
  tags : Ss H (.slice d.ta d.tags.length d.tc) d.tags
  key : d.key.size ≤ 1000000
  group : d.group.size ≤ 1000000
structure ItIn (H : Frz) (d : ItD) : Prop where
  tags : Ss H (.slice d.ta d.tags.length d.tc) d.tags
  key : d.key.size ≤ 1000000
theorem OfIn.le {H H' : Frz} {d : OfD} (h : OfIn H d) (l : H.Le H') : OfIn H' d := ⟨h.tags.le l, h.key, h.group⟩
theorem ItIn.le {H H' : Frz} {d : ItD} (h : ItIn H d) (l : H.Le H') : ItIn H' d := ⟨h.tags.le l, h.key⟩
theorem Ss.val {H : Frz} {v : Value} {ss : List ByteArray} (h : Ss H v ss) : ∃ A cap, v = .slice A ss.length cap ∧ ss.length ≤ cap := by
  obtain ⟨A, cap, h1, h2, _⟩ := h
  exact ⟨A, cap, h1, h2⟩
set_option maxHeartbeats 400000 in
theorem ofWithin_any (n l h : Int) (w : World) : Calls Tryz.prog 64 #[.int .i64 n, .int .i64 l, .int .i64 h] w fun e w' => e = .returned (.bool (decide (l ≤ n) && decide (n ≤ h))) ∧ w = w' := by
  by_cases h1 : l ≤ n
  · go_enter Tryz.func64, Tryz.ntmps64
    go_wp2
    go_ret
    exact ⟨by simp [h1], rfl⟩
  · go_enter Tryz.func64, Tryz.ntmps64
    go_wp2
    go_ret
    exact ⟨by simp; omega, rfl⟩
set_option maxHeartbeats 400000 in
theorem ofMoment_any (n : Int) (w : World) : Calls Tryz.prog 53 #[.int .i64 n] w fun e w' => e = .returned (.bool (decide (0 ≤ n) && decide (n ≤ 4321439))) ∧ w = w' := by
  go_enter Tryz.func53, Tryz.ntmps53
  go_wp2_with fail
  refine (ofWithin_any _ _ _ _).mono ?_
  rintro e w' ⟨rfl, rfl⟩
  generalize hq : (decide (0 ≤ n) && decide (n ≤ 4321439)) = q
  have HQ := Lib.hid hq
  clear hq
  go_wp2_with fail
  go_ret
  exact ⟨ret_bool' HQ.out.symm, rfl⟩
def leS (a b : ByteArray) : Bool := Op.bytesLess a.toList b.toList || a.toList == b.toList
/-- What is right with the i-th of tags. -/
def tagAt (ss : List ByteArray) (i : Nat) : Bool := isKey (ss.getD i ⟨#[]⟩) && !(decide (0 < i) && leS (ss.getD i ⟨#[]⟩) (ss.getD (i - 1) ⟨#[]⟩))
def tagsB (ss : List ByteArray) : Bool := decide (ss.length ≤ 10) && (List.range ss.length).all (tagAt ss)
theorem allR_succ {p : Nat → Bool} {i : Nat} (h : (List.range i).all p = true) (hi : p i = true) : (List.range (i + 1)).all p = true := by
  rw [List.range_succ, List.all_append, h]
  simp [hi]
theorem allR_not {p : Nat → Bool} {i n : Nat} (hn : i < n) (hi : p i = false) : (List.range n).all p = false := by
  rw [List.all_eq_false]
  exact ⟨i, List.mem_range.2 hn, by simp [hi]⟩
def ErrPost (ok : Bool) (w : World) (e : Ending) (w' : World) : Prop := ∃ n : Int, e = .returned (.int .i64 n) ∧ (n = 0 ↔ ok = true) ∧ Below w.heap.size w w'
theorem ErrPost.bad {ok : Bool} {w w' : World} {n : Int} (hn : n ≠ 0) (h : ok = false) (hb : Below w.heap.size w w') : ErrPost ok w (.returned (.int .i64 n)) w' := ⟨n, rfl, ⟨fun e => absurd e hn, fun e => by rw [h] at e; cases e⟩, hb⟩
theorem ErrPost.good {ok : Bool} {w w' : World} (h : ok = true) (hb : Below w.heap.size w w') : ErrPost ok w (.returned (.int .i64 0)) w' := ⟨0, rfl, ⟨fun _ => h, fun _ => rfl⟩, hb⟩
theorem Ss.getD {ss : List ByteArray} {i : Nat} (h : i < ss.length) : ss.getD i ⟨#[]⟩ = ss[i] := by simp [h]
set_option maxHeartbeats 4000000 in
set_option maxRecDepth 100000 in
theorem checkTags_any (H : Frz) (v : Value) (ss : List ByteArray) (w : World) (hH : H.In w) (hv : Ss H v ss) :
    Calls Tryz.prog 82 #[v] w (ErrPost (tagsB ss) w) := by
  obtain ⟨A, cap, rfl, hcap, hR, hsz, hlen⟩ := hv
  have HR := Lib.hid hR
  have HH := Lib.hid hH
  have HS := Lib.hid hsz
  clear hR hH hsz
  by_cases hbig : 10 < ss.length
  · have HV : Hid (tagsB ss = false) := by show _ = _; unfold tagsB; simp; intro c; omega
    go_enter Tryz.func82, Tryz.ntmps82
    go_wp2_with fail
    go_ret
    exact ErrPost.bad (by omega) HV.out (Below.refl _ _)
  · have HV : Hid (tagsB ss = (List.range ss.length).all (tagAt ss)) := by show _ = _; unfold tagsB; rw [decide_eq_true (by omega), Bool.true_and]
    go_enter Tryz.func82, Tryz.ntmps82
    go_wp2_with fail
    go_loop [10] (fun t => ∃ i : Nat, i ≤ ss.length ∧ t = .int .i64 i ∧ Hid ((List.range i).all (tagAt ss) = true)) (fun t => ss.length - (intOf t).toNat)
    case atStart => exact ⟨0, by omega, rfl, rfl⟩
    case round =>
      obtain ⟨i, hi, rfl, hall⟩ := hrel
      by_cases hlt : i < ss.length
      · obtain ⟨b, off, hA, hbl, hc⟩ := Ss.at_ HR.out HH.out hlt
        have hprev : Hid (∀ p, i = p + 1 → w.cell? ⟨b, off + p, none⟩ = some (.string (ss.getD p ⟨#[]⟩))) := by
          rintro p rfl
          have hp : p < ss.length := by omega
          obtain ⟨b', off', hA', _, hc'⟩ := Ss.at_ HR.out HH.out hp
          rw [hA] at hA'
          simp only [Option.some.injEq, Addr.mk.injEq] at hA'
          obtain ⟨rfl, rfl, _⟩ := hA'
          rw [Ss.getD hp]
          exact hc'
        subst hA
        have hks := HS.out _ (List.getElem_mem hlt)
        have HAT : Hid (tagAt ss i = (isKey ss[i] && !(decide (0 < i) && leS ss[i] (ss.getD (i - 1) ⟨#[]⟩)))) := by show _ = _; unfold tagAt; rw [Ss.getD hlt]
        have HBAD : Hid (tagAt ss i = false → tagsB ss = false) := fun h => HV.out.trans (allR_not hlt h)
        have HNX : Hid (tagAt ss i = true → (List.range (i + 1)).all (tagAt ss) = true) := fun h => allR_succ hall.out h
        generalize ss[i] = s at *
        clear hall
        go_wp2_with fail
        refine (isKey_any s _ (by omega)).mono ?_
        rintro e w' ⟨rfl, rfl⟩
        generalize isKey s = k1 at HAT
        cases k1 with
        | false =>
          have hv := Lib.hid (HBAD.out (HAT.out.trans rfl))
          go_wp2_with fail
          go_ret
          exact ErrPost.bad (by omega) hv.out (Below.refl _ _)
        | true =>
          rcases Nat.eq_zero_or_pos i with h0 | hpos
          · subst h0
            have hv := Lib.hid (HNX.out (HAT.out.trans rfl))
            clear HAT HNX HBAD
            go_wp2_with fail
            go_round
            case rel => exact ⟨1, by omega, by go_num, hv⟩
            case measure => simp [intOf]; omega
          · obtain ⟨p, hp⟩ : ∃ p, i = p + 1 := ⟨i - 1, by omega⟩
            have d2 : decide ((0 : Int) < (i : Int)) = true := by simp; omega
            have a1 : IntKind.i64.wrap ((i : Int) - 1) = (p : Int) := by rw [show (i : Int) - 1 = p from by omega]; exact IntWalk.i64_in _ (by omega)
            have a2 : (i : Int) - 1 = (p : Int) := by omega
            have a3 : (p : Int) < ss.length := by omega
            have a4 : (0 : Int) ≤ (p : Int) := by omega
            have a5 : p < ss.length := by omega
            have c1 := hprev.out p hp
            have HA2 : Hid (tagAt ss i = !leS s (ss.getD p ⟨#[]⟩)) := by
              show _ = _
              rw [HAT.out, decide_eq_true hpos, show i - 1 = p from by omega]
              rfl
            have HLE : Hid (leS s (ss.getD p ⟨#[]⟩) = (Op.bytesLess s.toList (ss.getD p ⟨#[]⟩).toList || s.toList == (ss.getD p ⟨#[]⟩).toList)) := rfl
            generalize ss.getD p ⟨#[]⟩ = pn at *
            clear hprev HAT hp
            generalize leS s pn = le at *
            cases le with
            | true =>
              have hv := Lib.hid (HBAD.out HA2.out)
              have hle := HLE.out.symm
              clear HLE HA2 HBAD HNX
              go_wp2_with fail
              go_ret
              exact ErrPost.bad (by omega) hv.out (Below.refl _ _)
            | false =>
              have hv := Lib.hid (HNX.out HA2.out)
              have hle := HLE.out.symm
              clear HLE HA2 HBAD HNX
              go_wp2_with fail
              go_round
              case rel => exact ⟨i + 1, by omega, by go_num, hv⟩
              case measure => simp [intOf]; omega
      · have hie : i = ss.length := by omega
        subst hie
        have hv := Lib.hid (HV.out.trans hall.out)
        go_wp2_with fail
        go_ret
        exact ErrPost.good hv.out (Below.refl _ _)
end Go.Proofs.YtihcmifikbkbcaaGreat

/- Offers: what is wrong with them. -/
namespace Go.Proofs.YtihcmifikbkbcaaGreat
set_option linter.unusedVariables false
open Go.RowKit
def inB (l n h : Int) : Bool := decide (l ≤ n) && decide (n ≤ h)
def amtB (d : OfD) : Bool := if d.kind = 1 then inB 1 d.a 100 && d.b == 0 else if d.kind = 3 then inB 1 d.a 20 && inB 1 d.b 20 else inB 1 d.a 1000000000000 && d.b == 0
theorem inW_any (n l h : Int) (w : World) : Calls Tryz.prog 64 #[.int .i64 n, .int .i64 l, .int .i64 h] w fun e w' => e = .returned (.bool (inB l n h)) ∧ w = w' := ofWithin_any n l h w
set_option maxHeartbeats 4000000 in
set_option maxRecDepth 100000 in
theorem amounts_any (d : OfD) (w : World) : Calls Tryz.prog 81 #[.agg #[.string d.key, .int .i64 d.kind, .int .i64 d.a, .int .i64 d.b, .slice d.ta d.tags.length d.tc, .int .i64 d.least, .int .i64 d.most, .string d.group, .bool d.alone, .int .i64 d.order, .int .i64 d.first, .int .i64 d.last]] w fun e w' => e = .returned (.bool (amtB d)) ∧ Below w.heap.size w w' := by
  have z0 : (w.alloc (.cells #[.string d.key, .int .i64 d.kind, .int .i64 d.a, .int .i64 d.b, .slice d.ta d.tags.length d.tc, .int .i64 d.least, .int .i64 d.most, .string d.group, .bool d.alone, .int .i64 d.order, .int .i64 d.first, .int .i64 d.last] 50)).cell? ⟨w.heap.size, 0, none⟩ = some (.string d.key) := newc 0 rfl
  have z1 : (w.alloc (.cells #[.string d.key, .int .i64 d.kind, .int .i64 d.a, .int .i64 d.b, .slice d.ta d.tags.length d.tc, .int .i64 d.least, .int .i64 d.most, .string d.group, .bool d.alone, .int .i64 d.order, .int .i64 d.first, .int .i64 d.last] 50)).cell? ⟨w.heap.size, 1, none⟩ = some (.int .i64 d.kind) := newc 1 rfl
  have z2 : (w.alloc (.cells #[.string d.key, .int .i64 d.kind, .int .i64 d.a, .int .i64 d.b, .slice d.ta d.tags.length d.tc, .int .i64 d.least, .int .i64 d.most, .string d.group, .bool d.alone, .int .i64 d.order, .int .i64 d.first, .int .i64 d.last] 50)).cell? ⟨w.heap.size, 2, none⟩ = some (.int .i64 d.a) := newc 2 rfl
  have z3 : (w.alloc (.cells #[.string d.key, .int .i64 d.kind, .int .i64 d.a, .int .i64 d.b, .slice d.ta d.tags.length d.tc, .int .i64 d.least, .int .i64 d.most, .string d.group, .bool d.alone, .int .i64 d.order, .int .i64 d.first, .int .i64 d.last] 50)).cell? ⟨w.heap.size, 3, none⟩ = some (.int .i64 d.b) := newc 3 rfl
  have z4 : (w.alloc (.cells #[.string d.key, .int .i64 d.kind, .int .i64 d.a, .int .i64 d.b, .slice d.ta d.tags.length d.tc, .int .i64 d.least, .int .i64 d.most, .string d.group, .bool d.alone, .int .i64 d.order, .int .i64 d.first, .int .i64 d.last] 50)).cell? ⟨w.heap.size, 4, none⟩ = some (.slice d.ta d.tags.length d.tc) := newc 4 rfl
  have z5 : (w.alloc (.cells #[.string d.key, .int .i64 d.kind, .int .i64 d.a, .int .i64 d.b, .slice d.ta d.tags.length d.tc, .int .i64 d.least, .int .i64 d.most, .string d.group, .bool d.alone, .int .i64 d.order, .int .i64 d.first, .int .i64 d.last] 50)).cell? ⟨w.heap.size, 5, none⟩ = some (.int .i64 d.least) := newc 5 rfl
  have z6 : (w.alloc (.cells #[.string d.key, .int .i64 d.kind, .int .i64 d.a, .int .i64 d.b, .slice d.ta d.tags.length d.tc, .int .i64 d.least, .int .i64 d.most, .string d.group, .bool d.alone, .int .i64 d.order, .int .i64 d.first, .int .i64 d.last] 50)).cell? ⟨w.heap.size, 6, none⟩ = some (.int .i64 d.most) := newc 6 rfl
  have z7 : (w.alloc (.cells #[.string d.key, .int .i64 d.kind, .int .i64 d.a, .int .i64 d.b, .slice d.ta d.tags.length d.tc, .int .i64 d.least, .int .i64 d.most, .string d.group, .bool d.alone, .int .i64 d.order, .int .i64 d.first, .int .i64 d.last] 50)).cell? ⟨w.heap.size, 7, none⟩ = some (.string d.group) := newc 7 rfl
  have z8 : (w.alloc (.cells #[.string d.key, .int .i64 d.kind, .int .i64 d.a, .int .i64 d.b, .slice d.ta d.tags.length d.tc, .int .i64 d.least, .int .i64 d.most, .string d.group, .bool d.alone, .int .i64 d.order, .int .i64 d.first, .int .i64 d.last] 50)).cell? ⟨w.heap.size, 8, none⟩ = some (.bool d.alone) := newc 8 rfl
  have z9 : (w.alloc (.cells #[.string d.key, .int .i64 d.kind, .int .i64 d.a, .int .i64 d.b, .slice d.ta d.tags.length d.tc, .int .i64 d.least, .int .i64 d.most, .string d.group, .bool d.alone, .int .i64 d.order, .int .i64 d.first, .int .i64 d.last] 50)).cell? ⟨w.heap.size, 9, none⟩ = some (.int .i64 d.order) := newc 9 rfl
  have z10 : (w.alloc (.cells #[.string d.key, .int .i64 d.kind, .int .i64 d.a, .int .i64 d.b, .slice d.ta d.tags.length d.tc, .int .i64 d.least, .int .i64 d.most, .string d.group, .bool d.alone, .int .i64 d.order, .int .i64 d.first, .int .i64 d.last] 50)).cell? ⟨w.heap.size, 10, none⟩ = some (.int .i64 d.first) := newc 10 rfl
  have z11 : (w.alloc (.cells #[.string d.key, .int .i64 d.kind, .int .i64 d.a, .int .i64 d.b, .slice d.ta d.tags.length d.tc, .int .i64 d.least, .int .i64 d.most, .string d.group, .bool d.alone, .int .i64 d.order, .int .i64 d.first, .int .i64 d.last] 50)).cell? ⟨w.heap.size, 11, none⟩ = some (.int .i64 d.last) := newc 11 rfl
  have HBN := Lib.hid (new1 (w := w) (.cells #[.string d.key, .int .i64 d.kind, .int .i64 d.a, .int .i64 d.b, .slice d.ta d.tags.length d.tc, .int .i64 d.least, .int .i64 d.most, .string d.group, .bool d.alone, .int .i64 d.order, .int .i64 d.first, .int .i64 d.last] 50))
  have HV : Hid (amtB d = if d.kind = 1 then inB 1 d.a 100 && d.b == 0 else if d.kind = 3 then inB 1 d.a 20 && inB 1 d.b 20 else inB 1 d.a 1000000000000 && d.b == 0) := rfl
  generalize amtB d = r at *
  go_enter Tryz.func81, Tryz.ntmps81
  go_upto_region 1 with (fail)
  generalize w.alloc (.cells #[.string d.key, .int .i64 d.kind, .int .i64 d.a, .int .i64 d.b, .slice d.ta d.tags.length d.tc, .int .i64 d.least, .int .i64 d.most, .string d.group, .bool d.alone, .int .i64 d.order, .int .i64 d.first, .int .i64 d.last] 50) = W1 at *
  by_cases h1 : d.kind = 1
  · have HV1 := Lib.hid (HV.out.trans (if_pos h1))
    have k1 : (d.kind == 1) = true := by simpa using h1
    clear HV h1
    go_wp2_with fail
    refine (inW_any _ _ _ _).mono ?_
    rintro e w' ⟨rfl, rfl⟩
    generalize inB 1 d.a 100 = q at *
    cases q with
    | false =>
      go_wp2_with fail
      go_ret
      exact ⟨ret_bool' (HV1.out.trans rfl).symm, HBN.out⟩
    | true =>
      generalize hb0 : (d.b == 0) = q at *
      have HQ := Lib.hid hb0
      go_wp2_with fail
      go_ret
      exact ⟨ret_bool' (HV1.out.trans (by simp)).symm, HBN.out⟩
  · have k1 : (d.kind == 1) = false := by simpa using h1
    by_cases h3 : d.kind = 3
    · have HV1 := Lib.hid (HV.out.trans ((if_neg h1).trans (if_pos h3)))
      have k3 : (d.kind == 3) = true := by simpa using h3
      clear HV h1 h3
      go_wp2_with fail
      refine (inW_any _ _ _ _).mono ?_
      rintro e w' ⟨rfl, rfl⟩
      generalize inB 1 d.a 20 = q at *
      cases q with
      | false =>
        go_wp2_with fail
        go_ret
        exact ⟨ret_bool' (HV1.out.trans rfl).symm, HBN.out⟩
      | true =>
        go_wp2_with fail
        refine (inW_any _ _ _ _).mono ?_
        rintro e w' ⟨rfl, rfl⟩
        generalize inB 1 d.b 20 = q at *
        go_wp2_with fail
        go_ret
        exact ⟨ret_bool' (HV1.out.trans (by simp)).symm, HBN.out⟩
    · have HV1 := Lib.hid (HV.out.trans ((if_neg h1).trans (if_neg h3)))
      have k3 : (d.kind == 3) = false := by simpa using h3
      clear HV h1 h3
      go_wp2_with fail
      refine (inW_any _ _ _ _).mono ?_
      rintro e w' ⟨rfl, rfl⟩
      generalize inB 1 d.a 1000000000000 = q at *
      cases q with
      | false =>
        go_wp2_with fail
        go_ret
        exact ⟨ret_bool' (HV1.out.trans rfl).symm, HBN.out⟩
      | true =>
        generalize hb0 : (d.b == 0) = q at *
        have HQ := Lib.hid hb0
        go_wp2_with fail
        go_ret
        exact ⟨ret_bool' (HV1.out.trans (by simp)).symm, HBN.out⟩
def sameOf (k : ByteArray) (x : OfD) : Bool := x.key.toList == k.toList
def grpB (d : OfD) : Bool := d.group.toList.isEmpty || isKey d.group
/-- What is right with the i-th of offers. -/
def offB (ds : List OfD) (i : Nat) (d : OfD) : Bool :=
  isKey d.key && !anyF (sameOf d.key) (ds.take i) && inB 1 d.kind 4 && amtB d && inB 0 d.least 1000000000000 && inB 0 d.most 1000000000000 && inB 0 d.order 1000 && inB 0 d.first 4321439 && inB (d.first + 1) d.last 4321440 &&
    (d.group.toList.isEmpty || isKey d.group) && tagsB d.tags && !(decide (0 < d.tags.length) && d.kind == 4)
def offAt (ds : List OfD) (i : Nat) : Bool := match ds[i]? with | some d => offB ds i d | none => true
def offersB (ds : List OfD) : Bool := decide (ds.length ≤ 40) && (List.range ds.length).all (offAt ds)
theorem offAt_at {ds : List OfD} {i : Nat} (h : i < ds.length) : offAt ds i = offB ds i ds[i] := by unfold offAt; rw [List.getElem?_eq_getElem h]
set_option maxHeartbeats 4000000 in
set_option maxRecDepth 100000 in
theorem checkOffers1_any (H : Frz) (b : Nat) (d x : OfD) (hb : H b = some (.cells #[.string d.key, .int .i64 d.kind, .int .i64 d.a, .int .i64 d.b, .slice d.ta d.tags.length d.tc, .int .i64 d.least, .int .i64 d.most, .string d.group, .bool d.alone, .int .i64 d.order, .int .i64 d.first, .int .i64 d.last] 50 (0, 0))) (w : World) (hH : H.In w) :
    Calls Tryz.prog 80 #[.agg #[fOf x 0, fOf x 1, fOf x 2, fOf x 3, fOf x 4, fOf x 5, fOf x 6, fOf x 7, fOf x 8, fOf x 9, fOf x 10, fOf x 11], .pointer (some ⟨b, 0, none⟩)] w fun e w' => e = .returned (.bool (sameOf d.key x)) ∧ Below w.heap.size w w' := by
  have y0 : (w.alloc (.cells #[.string x.key, .int .i64 x.kind, .int .i64 x.a, .int .i64 x.b, .slice x.ta x.tags.length x.tc, .int .i64 x.least, .int .i64 x.most, .string x.group, .bool x.alone, .int .i64 x.order, .int .i64 x.first, .int .i64 x.last] 50)).cell? ⟨b, 0, none⟩ = some (.string d.key) := cell_h ((hH.alloc _) _ _ hb) 0 rfl
  have HV : Hid (sameOf d.key x = (x.key.toList == d.key.toList)) := rfl
  generalize sameOf d.key x = r at HV
  clear hH hb
  show Calls Tryz.prog 80 #[.agg #[.string x.key, .int .i64 x.kind, .int .i64 x.a, .int .i64 x.b, .slice x.ta x.tags.length x.tc, .int .i64 x.least, .int .i64 x.most, .string x.group, .bool x.alone, .int .i64 x.order, .int .i64 x.first, .int .i64 x.last], .pointer (some ⟨b, 0, none⟩)] w _
  have z0 : (w.alloc (.cells #[.string x.key, .int .i64 x.kind, .int .i64 x.a, .int .i64 x.b, .slice x.ta x.tags.length x.tc, .int .i64 x.least, .int .i64 x.most, .string x.group, .bool x.alone, .int .i64 x.order, .int .i64 x.first, .int .i64 x.last] 50)).cell? ⟨w.heap.size, 0, none⟩ = some (.string x.key) := newc 0 rfl
  have z1 : (w.alloc (.cells #[.string x.key, .int .i64 x.kind, .int .i64 x.a, .int .i64 x.b, .slice x.ta x.tags.length x.tc, .int .i64 x.least, .int .i64 x.most, .string x.group, .bool x.alone, .int .i64 x.order, .int .i64 x.first, .int .i64 x.last] 50)).cell? ⟨w.heap.size, 1, none⟩ = some (.int .i64 x.kind) := newc 1 rfl
  have z2 : (w.alloc (.cells #[.string x.key, .int .i64 x.kind, .int .i64 x.a, .int .i64 x.b, .slice x.ta x.tags.length x.tc, .int .i64 x.least, .int .i64 x.most, .string x.group, .bool x.alone, .int .i64 x.order, .int .i64 x.first, .int .i64 x.last] 50)).cell? ⟨w.heap.size, 2, none⟩ = some (.int .i64 x.a) := newc 2 rfl
  have z3 : (w.alloc (.cells #[.string x.key, .int .i64 x.kind, .int .i64 x.a, .int .i64 x.b, .slice x.ta x.tags.length x.tc, .int .i64 x.least, .int .i64 x.most, .string x.group, .bool x.alone, .int .i64 x.order, .int .i64 x.first, .int .i64 x.last] 50)).cell? ⟨w.heap.size, 3, none⟩ = some (.int .i64 x.b) := newc 3 rfl
  have z4 : (w.alloc (.cells #[.string x.key, .int .i64 x.kind, .int .i64 x.a, .int .i64 x.b, .slice x.ta x.tags.length x.tc, .int .i64 x.least, .int .i64 x.most, .string x.group, .bool x.alone, .int .i64 x.order, .int .i64 x.first, .int .i64 x.last] 50)).cell? ⟨w.heap.size, 4, none⟩ = some (.slice x.ta x.tags.length x.tc) := newc 4 rfl
  have z5 : (w.alloc (.cells #[.string x.key, .int .i64 x.kind, .int .i64 x.a, .int .i64 x.b, .slice x.ta x.tags.length x.tc, .int .i64 x.least, .int .i64 x.most, .string x.group, .bool x.alone, .int .i64 x.order, .int .i64 x.first, .int .i64 x.last] 50)).cell? ⟨w.heap.size, 5, none⟩ = some (.int .i64 x.least) := newc 5 rfl
  have z6 : (w.alloc (.cells #[.string x.key, .int .i64 x.kind, .int .i64 x.a, .int .i64 x.b, .slice x.ta x.tags.length x.tc, .int .i64 x.least, .int .i64 x.most, .string x.group, .bool x.alone, .int .i64 x.order, .int .i64 x.first, .int .i64 x.last] 50)).cell? ⟨w.heap.size, 6, none⟩ = some (.int .i64 x.most) := newc 6 rfl
  have z7 : (w.alloc (.cells #[.string x.key, .int .i64 x.kind, .int .i64 x.a, .int .i64 x.b, .slice x.ta x.tags.length x.tc, .int .i64 x.least, .int .i64 x.most, .string x.group, .bool x.alone, .int .i64 x.order, .int .i64 x.first, .int .i64 x.last] 50)).cell? ⟨w.heap.size, 7, none⟩ = some (.string x.group) := newc 7 rfl
  have z8 : (w.alloc (.cells #[.string x.key, .int .i64 x.kind, .int .i64 x.a, .int .i64 x.b, .slice x.ta x.tags.length x.tc, .int .i64 x.least, .int .i64 x.most, .string x.group, .bool x.alone, .int .i64 x.order, .int .i64 x.first, .int .i64 x.last] 50)).cell? ⟨w.heap.size, 8, none⟩ = some (.bool x.alone) := newc 8 rfl
  have z9 : (w.alloc (.cells #[.string x.key, .int .i64 x.kind, .int .i64 x.a, .int .i64 x.b, .slice x.ta x.tags.length x.tc, .int .i64 x.least, .int .i64 x.most, .string x.group, .bool x.alone, .int .i64 x.order, .int .i64 x.first, .int .i64 x.last] 50)).cell? ⟨w.heap.size, 9, none⟩ = some (.int .i64 x.order) := newc 9 rfl
  have z10 : (w.alloc (.cells #[.string x.key, .int .i64 x.kind, .int .i64 x.a, .int .i64 x.b, .slice x.ta x.tags.length x.tc, .int .i64 x.least, .int .i64 x.most, .string x.group, .bool x.alone, .int .i64 x.order, .int .i64 x.first, .int .i64 x.last] 50)).cell? ⟨w.heap.size, 10, none⟩ = some (.int .i64 x.first) := newc 10 rfl
  have z11 : (w.alloc (.cells #[.string x.key, .int .i64 x.kind, .int .i64 x.a, .int .i64 x.b, .slice x.ta x.tags.length x.tc, .int .i64 x.least, .int .i64 x.most, .string x.group, .bool x.alone, .int .i64 x.order, .int .i64 x.first, .int .i64 x.last] 50)).cell? ⟨w.heap.size, 11, none⟩ = some (.int .i64 x.last) := newc 11 rfl
  have HBN := Lib.hid (new1 (w := w) (.cells #[.string x.key, .int .i64 x.kind, .int .i64 x.a, .int .i64 x.b, .slice x.ta x.tags.length x.tc, .int .i64 x.least, .int .i64 x.most, .string x.group, .bool x.alone, .int .i64 x.order, .int .i64 x.first, .int .i64 x.last] 50))
  generalize hq : (x.key.toList == d.key.toList) = q at HV
  go_enter Tryz.func80, Tryz.ntmps80
  go_upto_region 1 with (fail)
  generalize w.alloc (.cells #[.string x.key, .int .i64 x.kind, .int .i64 x.a, .int .i64 x.b, .slice x.ta x.tags.length x.tc, .int .i64 x.least, .int .i64 x.most, .string x.group, .bool x.alone, .int .i64 x.order, .int .i64 x.first, .int .i64 x.last] 50) = W1 at *
  go_wp2_with fail
  go_ret
  exact ⟨ret_bool' HV.out.symm, HBN.out⟩
set_option maxHeartbeats 4000000 in
set_option maxRecDepth 100000 in
theorem checkOffers_any (H : Frz) (A : Option Addr) (cap : Nat) (ds : List OfD) (w : World) (hH : H.In w) (hR : Rw H A 12 fOf ds) (hsz : ∀ d ∈ ds, OfIn H d) (hl : ds.length ≤ 1000000) (hcap : ds.length ≤ cap) :
    Calls Tryz.prog 58 #[.slice A ds.length cap] w (ErrPost (offersB ds) w) := by
  have HR := Lib.hid hR
  have HH := Lib.hid hH
  have HS := Lib.hid hsz
  clear hR hH hsz
  by_cases hbig : 40 < ds.length
  · have HV : Hid (offersB ds = false) := by show _ = _; unfold offersB; simp; intro c; omega
    go_enter Tryz.func58, Tryz.ntmps58
    go_wp2_with fail
    go_ret
    exact ErrPost.bad (by omega) HV.out (Below.refl _ _)
  · have HV : Hid (offersB ds = (List.range ds.length).all (offAt ds)) := by show _ = _; unfold offersB; rw [decide_eq_true (by omega), Bool.true_and]
    go_enter Tryz.func58, Tryz.ntmps58
    go_wp2_with fail
    go_loopw [11] (fun t wr => ∃ i : Nat, i ≤ ds.length ∧ t = .int .i64 i ∧ Hid ((List.range i).all (offAt ds) = true) ∧ Hid (Below w.heap.size w wr)) (fun t _ => ds.length - (intOf t).toNat)
    case atStart => exact ⟨0, by omega, rfl, rfl, Below.refl _ _⟩
    case round =>
      obtain ⟨i, hi, rfl, hall, hb⟩ := hrel
      by_cases hlt : i < ds.length
      · have hin := HH.out.below hb.out
        obtain ⟨b, off, hA, hbl, hc⟩ := HR.out.at_ hin hlt (by omega)
        subst hA
        have c0 : wr.cell? ⟨b, off + i * 12, none⟩ = some (.string ds[i].key) := hc 0 (by omega)
        have c1 : wr.cell? ⟨b, off + i * 12 + 1, none⟩ = some (.int .i64 ds[i].kind) := hc 1 (by omega)
        have c2 : wr.cell? ⟨b, off + i * 12 + 2, none⟩ = some (.int .i64 ds[i].a) := hc 2 (by omega)
        have c3 : wr.cell? ⟨b, off + i * 12 + 3, none⟩ = some (.int .i64 ds[i].b) := hc 3 (by omega)
        have c4 : wr.cell? ⟨b, off + i * 12 + 4, none⟩ = some (.slice ds[i].ta ds[i].tags.length ds[i].tc) := hc 4 (by omega)
        have c5 : wr.cell? ⟨b, off + i * 12 + 5, none⟩ = some (.int .i64 ds[i].least) := hc 5 (by omega)
        have c6 : wr.cell? ⟨b, off + i * 12 + 6, none⟩ = some (.int .i64 ds[i].most) := hc 6 (by omega)
        have c7 : wr.cell? ⟨b, off + i * 12 + 7, none⟩ = some (.string ds[i].group) := hc 7 (by omega)
        have c8 : wr.cell? ⟨b, off + i * 12 + 8, none⟩ = some (.bool ds[i].alone) := hc 8 (by omega)
        have c9 : wr.cell? ⟨b, off + i * 12 + 9, none⟩ = some (.int .i64 ds[i].order) := hc 9 (by omega)
        have c10 : wr.cell? ⟨b, off + i * 12 + 10, none⟩ = some (.int .i64 ds[i].first) := hc 10 (by omega)
        have c11 : wr.cell? ⟨b, off + i * 12 + 11, none⟩ = some (.int .i64 ds[i].last) := hc 11 (by omega)
        have hOI := Lib.hid (HS.out _ (List.getElem_mem hlt))
        have hks := hOI.out.key
        have hgs := hOI.out.group
        have HTG := Lib.hid hOI.out.tags
        have HAT : Hid (offAt ds i = offB ds i ds[i]) := offAt_at hlt
        have HBAD : Hid (offAt ds i = false → offersB ds = false) := fun h => HV.out.trans (allR_not hlt h)
        have HNX : Hid (offAt ds i = true → (List.range (i + 1)).all (offAt ds) = true) := fun h => allR_succ hall.out h
        clear hc hOI hall
        generalize ds[i] = d at *
        unfold offB at HAT
        obtain ⟨H2, hl2, hbx, hin2⟩ := hin.put (.cells #[.string d.key, .int .i64 d.kind, .int .i64 d.a, .int .i64 d.b, .slice d.ta d.tags.length d.tc, .int .i64 d.least, .int .i64 d.most, .string d.group, .bool d.alone, .int .i64 d.order, .int .i64 d.first, .int .i64 d.last] 50)
        have hb2 := Lib.hid (hb.out.alloc hb.out.size (.cells #[.string d.key, .int .i64 d.kind, .int .i64 d.a, .int .i64 d.b, .slice d.ta d.tags.length d.tc, .int .i64 d.least, .int .i64 d.most, .string d.group, .bool d.alone, .int .i64 d.order, .int .i64 d.first, .int .i64 d.last] 50))
        have HL2 := Lib.hid hl2
        have HBX := Lib.hid hbx
        have HIN2 := Lib.hid hin2
        have HTG2 := Lib.hid (HTG.out.le hl2)
        clear hl2 hbx hin2 hin HTG
        go_upto_region 6 with (fail)
        clear c0 c1 c2 c3 c4 c5 c6 c7 c8 c9 c10 c11
        generalize hg : wr.heap.size = g at *
        have HG := Lib.hid hg
        clear hg
        generalize wr.alloc (.cells #[.string d.key, .int .i64 d.kind, .int .i64 d.a, .int .i64 d.b, .slice d.ta d.tags.length d.tc, .int .i64 d.least, .int .i64 d.most, .string d.group, .bool d.alone, .int .i64 d.order, .int .i64 d.first, .int .i64 d.last] 50) = W1 at *
        have hk := HIN2.out _ _ HBX.out
        have y0 := cell_h hk 0 (v := .string d.key) rfl
        have y1 := cell_h hk 1 (v := .int .i64 d.kind) rfl
        have y2 := cell_h hk 2 (v := .int .i64 d.a) rfl
        have y3 := cell_h hk 3 (v := .int .i64 d.b) rfl
        have y4 := cell_h hk 4 (v := .slice d.ta d.tags.length d.tc) rfl
        have y5 := cell_h hk 5 (v := .int .i64 d.least) rfl
        have y6 := cell_h hk 6 (v := .int .i64 d.most) rfl
        have y7 := cell_h hk 7 (v := .string d.group) rfl
        have y8 := cell_h hk 8 (v := .bool d.alone) rfl
        have y9 := cell_h hk 9 (v := .int .i64 d.order) rfl
        have y10 := cell_h hk 10 (v := .int .i64 d.first) rfl
        have y11 := cell_h hk 11 (v := .int .i64 d.last) rfl
        clear hk
        go_wp2_with fail
        refine (isKey_any d.key _ (by omega)).mono ?_
        rintro e w' ⟨rfl, rfl⟩
        generalize isKey d.key = q at HAT
        cases q with
        | false =>
          have hv := Lib.hid (HBAD.out (HAT.out.trans (by simp)))
          go_wp2_with fail
          go_ret
          exact ErrPost.bad (by omega) hv.out hb2.out
        | true =>
        have hii : (i : Int) ≤ cap := by omega
        have hti : (ds.take i).length = i := by simp; omega
        have h46 := containsFunc_Of H2 fOf 80 [.pointer (some ⟨g, 0, none⟩)] (sameOf d.key) (ds.take i) (fun W x _ hW => checkOffers1_any H2 g d x HBX.out W hW) (fun _ _ => by kernel_rfl) (some ⟨b, off, none⟩) cap W1 HIN2.out ((HR.out.take i).le HL2.out) (by rw [hti]; omega)
        rw [hti] at h46
        have H46 := Lib.hid h46
        clear h46 hti
        go_wp2_with fail
        refine H46.out.mono ?_
        rintro e W2 ⟨rfl, hbW2⟩
        have HB3 := Lib.hid (hb2.out.trans (hbW2.mono hb2.out.size))
        have HIN3 := Lib.hid (HIN2.out.below hbW2)
        clear hbW2 hb2 HIN2 y0 y1 y2 y3 y4 y5 y6 y7 y8 y9 y10 y11 H46
        have hk := HIN3.out _ _ HBX.out
        have y0 := cell_h hk 0 (v := .string d.key) rfl
        have y1 := cell_h hk 1 (v := .int .i64 d.kind) rfl
        have y2 := cell_h hk 2 (v := .int .i64 d.a) rfl
        have y3 := cell_h hk 3 (v := .int .i64 d.b) rfl
        have y4 := cell_h hk 4 (v := .slice d.ta d.tags.length d.tc) rfl
        have y5 := cell_h hk 5 (v := .int .i64 d.least) rfl
        have y6 := cell_h hk 6 (v := .int .i64 d.most) rfl
        have y7 := cell_h hk 7 (v := .string d.group) rfl
        have y8 := cell_h hk 8 (v := .bool d.alone) rfl
        have y9 := cell_h hk 9 (v := .int .i64 d.order) rfl
        have y10 := cell_h hk 10 (v := .int .i64 d.first) rfl
        have y11 := cell_h hk 11 (v := .int .i64 d.last) rfl
        clear hk
        generalize anyF (sameOf d.key) (ds.take i) = q at HAT
        cases q with
        | true =>
          have hv := Lib.hid (HBAD.out (HAT.out.trans (by simp)))
          go_wp2_with fail
          go_ret
          exact ErrPost.bad (by omega) hv.out HB3.out
        | false =>
        go_wp2_with fail
        refine (inW_any _ _ _ _).mono ?_
        rintro e w' ⟨rfl, rfl⟩
        generalize inB 1 d.kind 4 = q at HAT
        cases q with
        | false =>
          have hv := Lib.hid (HBAD.out (HAT.out.trans (by simp)))
          go_wp2_with fail
          go_ret
          exact ErrPost.bad (by omega) hv.out HB3.out
        | true =>
        go_wp2_with fail
        refine (amounts_any d _).mono ?_
        rintro e W3 ⟨rfl, hbW3⟩
        have HB4 := Lib.hid (HB3.out.trans (hbW3.mono HB3.out.size))
        have HIN4 := Lib.hid (HIN3.out.below hbW3)
        clear hbW3 HB3 HIN3 y0 y1 y2 y3 y4 y5 y6 y7 y8 y9 y10 y11
        have hk := HIN4.out _ _ HBX.out
        have y0 := cell_h hk 0 (v := .string d.key) rfl
        have y1 := cell_h hk 1 (v := .int .i64 d.kind) rfl
        have y2 := cell_h hk 2 (v := .int .i64 d.a) rfl
        have y3 := cell_h hk 3 (v := .int .i64 d.b) rfl
        have y4 := cell_h hk 4 (v := .slice d.ta d.tags.length d.tc) rfl
        have y5 := cell_h hk 5 (v := .int .i64 d.least) rfl
        have y6 := cell_h hk 6 (v := .int .i64 d.most) rfl
        have y7 := cell_h hk 7 (v := .string d.group) rfl
        have y8 := cell_h hk 8 (v := .bool d.alone) rfl
        have y9 := cell_h hk 9 (v := .int .i64 d.order) rfl
        have y10 := cell_h hk 10 (v := .int .i64 d.first) rfl
        have y11 := cell_h hk 11 (v := .int .i64 d.last) rfl
        clear hk
        generalize amtB d = q at HAT
        cases q with
        | false =>
          have hv := Lib.hid (HBAD.out (HAT.out.trans (by simp)))
          go_wp2_with fail
          go_ret
          exact ErrPost.bad (by omega) hv.out HB4.out
        | true =>
        go_wp2_with fail
        refine (inW_any _ _ _ _).mono ?_
        rintro e w' ⟨rfl, rfl⟩
        generalize hin : inB 0 d.least 1000000000000 = q at HAT
        have HIN10 := Lib.hid hin
        clear hin
        cases q with
        | false =>
          have hv := Lib.hid (HBAD.out (HAT.out.trans (by simp)))
          go_wp2_with fail
          go_ret
          exact ErrPost.bad (by omega) hv.out HB4.out
        | true =>
        go_wp2_with fail
        refine (inW_any _ _ _ _).mono ?_
        rintro e w' ⟨rfl, rfl⟩
        generalize hin : inB 0 d.most 1000000000000 = q at HAT
        have HIN11 := Lib.hid hin
        clear hin
        cases q with
        | false =>
          have hv := Lib.hid (HBAD.out (HAT.out.trans (by simp)))
          go_wp2_with fail
          go_ret
          exact ErrPost.bad (by omega) hv.out HB4.out
        | true =>
        go_wp2_with fail
        refine (inW_any _ _ _ _).mono ?_
        rintro e w' ⟨rfl, rfl⟩
        generalize hin : inB 0 d.order 1000 = q at HAT
        have HIN12 := Lib.hid hin
        clear hin
        cases q with
        | false =>
          have hv := Lib.hid (HBAD.out (HAT.out.trans (by simp)))
          go_wp2_with fail
          go_ret
          exact ErrPost.bad (by omega) hv.out HB4.out
        | true =>
        go_wp2_with fail
        refine (ofMoment_any _ _).mono ?_
        rintro e w' ⟨rfl, rfl⟩
        change Hid (_ = (_ && (decide (0 ≤ d.first) && decide (d.first ≤ 4321439)) && _ && _ && _ && _)) at HAT
        generalize hin : (decide (0 ≤ d.first) && decide (d.first ≤ 4321439)) = q at HAT
        cases q with
        | false =>
          clear hin
          have hv := Lib.hid (HBAD.out (HAT.out.trans (by simp)))
          go_wp2_with fail
          go_ret
          exact ErrPost.bad (by omega) hv.out HB4.out
        | true =>
        have hfr : 0 ≤ d.first ∧ d.first ≤ 4321439 := by simpa using hin
        clear hin
        obtain ⟨hf1, hf2⟩ := hfr
        go_wp2_with fail
        refine (inW_any _ _ _ _).mono ?_
        rintro e w' ⟨rfl, rfl⟩
        generalize hin : inB (d.first + 1) d.last 4321440 = q at HAT
        have HIN13 := Lib.hid hin
        clear hin
        cases q with
        | false =>
          have hv := Lib.hid (HBAD.out (HAT.out.trans (by simp)))
          go_wp2_with fail
          go_ret
          exact ErrPost.bad (by omega) hv.out HB4.out
        | true =>
        cases hge : d.group.toList.isEmpty with
        | true =>
          have hge2 : (!d.group.toList.isEmpty) = false := by rw [hge]; rfl
          rw [hge] at HAT
          change Hid (_ = (_ && (true || _) && _ && _)) at HAT
          have HA2 : Hid (offAt ds i = (tagsB d.tags && !(decide (0 < d.tags.length) && d.kind == 4))) := HAT.out.trans (by simp)
          clear HAT
          go_wp2_with fail
          refine (checkTags_any H2 (.slice d.ta d.tags.length d.tc) d.tags _ HIN4.out HTG2.out).mono ?_
          rintro e W5 ⟨n, rfl, hn, hbW5⟩
          have HB5 := Lib.hid (HB4.out.trans (hbW5.mono HB4.out.size))
          have HIN5 := Lib.hid (HIN4.out.below hbW5)
          clear hbW5 HB4 HIN4 y0 y1 y2 y3 y4 y5 y6 y7 y8 y9 y10 y11
          have hk := HIN5.out _ _ HBX.out
          have y0 := cell_h hk 0 (v := .string d.key) rfl
          have y1 := cell_h hk 1 (v := .int .i64 d.kind) rfl
          have y2 := cell_h hk 2 (v := .int .i64 d.a) rfl
          have y3 := cell_h hk 3 (v := .int .i64 d.b) rfl
          have y4 := cell_h hk 4 (v := .slice d.ta d.tags.length d.tc) rfl
          have y5 := cell_h hk 5 (v := .int .i64 d.least) rfl
          have y6 := cell_h hk 6 (v := .int .i64 d.most) rfl
          have y7 := cell_h hk 7 (v := .string d.group) rfl
          have y8 := cell_h hk 8 (v := .bool d.alone) rfl
          have y9 := cell_h hk 9 (v := .int .i64 d.order) rfl
          have y10 := cell_h hk 10 (v := .int .i64 d.first) rfl
          have y11 := cell_h hk 11 (v := .int .i64 d.last) rfl
          clear hk
          generalize tagsB d.tags = q at *
          cases q with
          | false =>
            have hv := Lib.hid (HBAD.out (HA2.out.trans (by simp)))
            have hn0 : (n != 0) = true := by simp; intro c; have := hn.1 c; cases this
            have hn1 : n ≠ 0 := by simpa using hn0
            clear hn HA2
            go_wp2_with fail
            go_ret
            exact ErrPost.bad hn1 hv.out HB5.out
          | true =>
            have hn1 : n = 0 := hn.2 rfl
            subst hn1
            clear hn
            by_cases h0 : 0 < d.tags.length
            · have k0 : decide ((0 : Int) < d.tags.length) = true := by simp; omega
              by_cases h4 : d.kind = 4
              · have k4 : (d.kind == 4) = true := by simpa using h4
                have hv := Lib.hid (HBAD.out (HA2.out.trans (by simp [h0, h4])))
                clear HA2 h4
                go_wp2_with fail
                go_ret
                exact ErrPost.bad (by omega) hv.out HB5.out
              · have k4 : (d.kind == 4) = false := by simpa using h4
                have hv := Lib.hid (HNX.out (HA2.out.trans (by simp [h4])))
                clear HA2 h4
                go_wp2_with fail
                go_roundw
                case rel => exact ⟨i + 1, by omega, by go_num, hv, HB5⟩
                case measure => simp [intOf]; omega
            · have k0 : decide ((0 : Int) < d.tags.length) = false := by simp; exact List.eq_nil_of_length_eq_zero (by omega)
              have hv := Lib.hid (HNX.out (HA2.out.trans (by simp [h0])))
              clear HA2
              go_wp2_with fail
              go_roundw
              case rel => exact ⟨i + 1, by omega, by go_num, hv, HB5⟩
              case measure => simp [intOf]; omega
        | false =>
          have hge2 : (!d.group.toList.isEmpty) = true := by rw [hge]; rfl
          rw [hge] at HAT
          go_wp2_with fail
          refine (isKey_any d.group _ (by omega)).mono ?_
          rintro e w' ⟨rfl, rfl⟩
          generalize isKey d.group = q at HAT
          cases q with
          | false =>
            have hv := Lib.hid (HBAD.out (HAT.out.trans (by simp)))
            go_wp2_with fail
            go_ret
            exact ErrPost.bad (by omega) hv.out HB4.out
          | true =>
          have HA2 : Hid (offAt ds i = (tagsB d.tags && !(decide (0 < d.tags.length) && d.kind == 4))) := HAT.out.trans (by simp)
          clear HAT
          go_wp2_with fail
          refine (checkTags_any H2 (.slice d.ta d.tags.length d.tc) d.tags _ HIN4.out HTG2.out).mono ?_
          rintro e W5 ⟨n, rfl, hn, hbW5⟩
          have HB5 := Lib.hid (HB4.out.trans (hbW5.mono HB4.out.size))
          have HIN5 := Lib.hid (HIN4.out.below hbW5)
          clear hbW5 HB4 HIN4 y0 y1 y2 y3 y4 y5 y6 y7 y8 y9 y10 y11
          have hk := HIN5.out _ _ HBX.out
          have y0 := cell_h hk 0 (v := .string d.key) rfl
          have y1 := cell_h hk 1 (v := .int .i64 d.kind) rfl
          have y2 := cell_h hk 2 (v := .int .i64 d.a) rfl
          have y3 := cell_h hk 3 (v := .int .i64 d.b) rfl
          have y4 := cell_h hk 4 (v := .slice d.ta d.tags.length d.tc) rfl
          have y5 := cell_h hk 5 (v := .int .i64 d.least) rfl
          have y6 := cell_h hk 6 (v := .int .i64 d.most) rfl
          have y7 := cell_h hk 7 (v := .string d.group) rfl
          have y8 := cell_h hk 8 (v := .bool d.alone) rfl
          have y9 := cell_h hk 9 (v := .int .i64 d.order) rfl
          have y10 := cell_h hk 10 (v := .int .i64 d.first) rfl
          have y11 := cell_h hk 11 (v := .int .i64 d.last) rfl
          clear hk
          generalize tagsB d.tags = q at *
          cases q with
          | false =>
            have hv := Lib.hid (HBAD.out (HA2.out.trans (by simp)))
            have hn0 : (n != 0) = true := by simp; intro c; have := hn.1 c; cases this
            have hn1 : n ≠ 0 := by simpa using hn0
            clear hn HA2
            go_wp2_with fail
            go_ret
            exact ErrPost.bad hn1 hv.out HB5.out
          | true =>
            have hn1 : n = 0 := hn.2 rfl
            subst hn1
            clear hn
            by_cases h0 : 0 < d.tags.length
            · have k0 : decide ((0 : Int) < d.tags.length) = true := by simp; omega
              by_cases h4 : d.kind = 4
              · have k4 : (d.kind == 4) = true := by simpa using h4
                have hv := Lib.hid (HBAD.out (HA2.out.trans (by simp [h0, h4])))
                clear HA2 h4
                go_wp2_with fail
                go_ret
                exact ErrPost.bad (by omega) hv.out HB5.out
              · have k4 : (d.kind == 4) = false := by simpa using h4
                have hv := Lib.hid (HNX.out (HA2.out.trans (by simp [h4])))
                clear HA2 h4
                go_wp2_with fail
                go_roundw
                case rel => exact ⟨i + 1, by omega, by go_num, hv, HB5⟩
                case measure => simp [intOf]; omega
            · have k0 : decide ((0 : Int) < d.tags.length) = false := by simp; exact List.eq_nil_of_length_eq_zero (by omega)
              have hv := Lib.hid (HNX.out (HA2.out.trans (by simp [h0])))
              clear HA2
              go_wp2_with fail
              go_roundw
              case rel => exact ⟨i + 1, by omega, by go_num, hv, HB5⟩
              case measure => simp [intOf]; omega
      · have hie : i = ds.length := by omega
        subst hie
        have hv := Lib.hid (HV.out.trans hall.out)
        go_wp2_with fail
        go_ret
        exact ErrPost.good hv.out hb.out
end Go.Proofs.YtihcmifikbkbcaaGreat

/- Baskets: what is wrong with them. -/
namespace Go.Proofs.YtihcmifikbkbcaaGreat
set_option linter.unusedVariables false
open Go.RowKit
def sameIt (k : ByteArray) (x : ItD) : Bool := x.key.toList == k.toList
/-- What is right with the i-th of items. -/
def itmB (ds : List ItD) (i : Nat) (d : ItD) : Bool := isKey d.key && !anyF (sameIt d.key) (ds.take i) && inB 0 d.cents 10000000 && inB 1 d.many 100 && tagsB d.tags
def itmAt (ds : List ItD) (i : Nat) : Bool := match ds[i]? with | some d => itmB ds i d | none => true
def basketB (ds : List ItD) (ship : Int) : Bool := decide (ds.length ≤ 50) && (List.range ds.length).all (itmAt ds) && inB 0 ship 1000000000000
theorem itmAt_at {ds : List ItD} {i : Nat} (h : i < ds.length) : itmAt ds i = itmB ds i ds[i] := by unfold itmAt; rw [List.getElem?_eq_getElem h]
set_option maxHeartbeats 4000000 in
set_option maxRecDepth 100000 in
theorem checkBasket1_any (H : Frz) (b : Nat) (d x : ItD) (hb : H b = some (.cells #[.string d.key, .int .i64 d.cents, .int .i64 d.many, .slice d.ta d.tags.length d.tc] 42 (0, 0))) (w : World) (hH : H.In w) :
    Calls Tryz.prog 84 #[.agg #[fIt x 0, fIt x 1, fIt x 2, fIt x 3], .pointer (some ⟨b, 0, none⟩)] w fun e w' => e = .returned (.bool (sameIt d.key x)) ∧ Below w.heap.size w w' := by
  have y0 : (w.alloc (.cells #[.string x.key, .int .i64 x.cents, .int .i64 x.many, .slice x.ta x.tags.length x.tc] 42)).cell? ⟨b, 0, none⟩ = some (.string d.key) := cell_h ((hH.alloc _) _ _ hb) 0 rfl
  have HV : Hid (sameIt d.key x = (x.key.toList == d.key.toList)) := rfl
  generalize sameIt d.key x = r at HV
  clear hH hb
  show Calls Tryz.prog 84 #[.agg #[.string x.key, .int .i64 x.cents, .int .i64 x.many, .slice x.ta x.tags.length x.tc], .pointer (some ⟨b, 0, none⟩)] w _
  have z0 : (w.alloc (.cells #[.string x.key, .int .i64 x.cents, .int .i64 x.many, .slice x.ta x.tags.length x.tc] 42)).cell? ⟨w.heap.size, 0, none⟩ = some (.string x.key) := newc 0 rfl
  have z1 : (w.alloc (.cells #[.string x.key, .int .i64 x.cents, .int .i64 x.many, .slice x.ta x.tags.length x.tc] 42)).cell? ⟨w.heap.size, 1, none⟩ = some (.int .i64 x.cents) := newc 1 rfl
  have z2 : (w.alloc (.cells #[.string x.key, .int .i64 x.cents, .int .i64 x.many, .slice x.ta x.tags.length x.tc] 42)).cell? ⟨w.heap.size, 2, none⟩ = some (.int .i64 x.many) := newc 2 rfl
  have z3 : (w.alloc (.cells #[.string x.key, .int .i64 x.cents, .int .i64 x.many, .slice x.ta x.tags.length x.tc] 42)).cell? ⟨w.heap.size, 3, none⟩ = some (.slice x.ta x.tags.length x.tc) := newc 3 rfl
  have HBN := Lib.hid (new1 (w := w) (.cells #[.string x.key, .int .i64 x.cents, .int .i64 x.many, .slice x.ta x.tags.length x.tc] 42))
  generalize hq : (x.key.toList == d.key.toList) = q at HV
  go_enter Tryz.func84, Tryz.ntmps84
  go_upto_region 1 with (fail)
  generalize w.alloc (.cells #[.string x.key, .int .i64 x.cents, .int .i64 x.many, .slice x.ta x.tags.length x.tc] 42) = W1 at *
  go_wp2_with fail
  go_ret
  exact ⟨ret_bool' HV.out.symm, HBN.out⟩
set_option maxHeartbeats 4000000 in
set_option maxRecDepth 100000 in
theorem checkBasket_any (H : Frz) (A : Option Addr) (cap : Nat) (ds : List ItD) (ship : Int) (w : World) (hH : H.In w) (hR : Rw H A 4 fIt ds) (hsz : ∀ d ∈ ds, ItIn H d) (hl : ds.length ≤ 1000000) (hcap : ds.length ≤ cap) :
    Calls Tryz.prog 59 #[.agg #[.slice A ds.length cap, .int .i64 ship]] w (ErrPost (basketB ds ship) w) := by
  obtain ⟨H1, hl1, hbs, hin1⟩ := hH.put (.cells #[.slice A ds.length cap, .int .i64 ship] 30)
  have HBS := Lib.hid hbs
  have HB0 := Lib.hid (new1 (w := w) (.cells #[.slice A ds.length cap, .int .i64 ship] 30))
  have HR := Lib.hid (hR.le hl1)
  have HH := Lib.hid hin1
  have HS : Hid (∀ d ∈ ds, ItIn H1 d) := fun d hd => (hsz d hd).le hl1
  clear hR hH hsz hbs hl1 hin1
  by_cases hbig : 50 < ds.length
  · have HV : Hid (basketB ds ship = false) := by show _ = _; unfold basketB; simp; intro c; omega
    go_enter Tryz.func59, Tryz.ntmps59
    go_upto_region 1 with (fail)
    generalize w.alloc (.cells #[.slice A ds.length cap, .int .i64 ship] 30) = W0 at *
    have hk := HH.out _ _ HBS.out
    have b0 := cell_h hk 0 (v := .slice A ds.length cap) rfl
    clear hk
    go_wp2_with fail
    go_ret
    exact ErrPost.bad (by omega) HV.out HB0.out
  · have HV : Hid (basketB ds ship = ((List.range ds.length).all (itmAt ds) && inB 0 ship 1000000000000)) := by show _ = _; unfold basketB; rw [decide_eq_true (by omega), Bool.true_and]
    go_enter Tryz.func59, Tryz.ntmps59
    go_upto_region 1 with (fail)
    generalize w.alloc (.cells #[.slice A ds.length cap, .int .i64 ship] 30) = W0 at *
    have hk := HH.out _ _ HBS.out
    have b0 := cell_h hk 0 (v := .slice A ds.length cap) rfl
    clear hk
    go_wp2_with fail
    clear b0
    go_loopw [13] (fun t wr => ∃ i : Nat, i ≤ ds.length ∧ t = .int .i64 i ∧ Hid ((List.range i).all (itmAt ds) = true) ∧ Hid (Below w.heap.size w wr) ∧ Hid (H1.In wr)) (fun t _ => ds.length - (intOf t).toNat)
    case atStart => exact ⟨0, by omega, rfl, rfl, HB0, HH⟩
    case round =>
      obtain ⟨i, hi, rfl, hall, hb, hin⟩ := hrel
      clear HH HB0
      by_cases hlt : i < ds.length
      · obtain ⟨b, off, hA, hbl, hc⟩ := HR.out.at_ hin.out hlt (by omega)
        subst hA
        have c0 : wr.cell? ⟨b, off + i * 4, none⟩ = some (.string ds[i].key) := hc 0 (by omega)
        have c1 : wr.cell? ⟨b, off + i * 4 + 1, none⟩ = some (.int .i64 ds[i].cents) := hc 1 (by omega)
        have c2 : wr.cell? ⟨b, off + i * 4 + 2, none⟩ = some (.int .i64 ds[i].many) := hc 2 (by omega)
        have c3 : wr.cell? ⟨b, off + i * 4 + 3, none⟩ = some (.slice ds[i].ta ds[i].tags.length ds[i].tc) := hc 3 (by omega)
        have hOI := Lib.hid (HS.out _ (List.getElem_mem hlt))
        have hks := hOI.out.key
        have HTG := Lib.hid hOI.out.tags
        have HAT : Hid (itmAt ds i = itmB ds i ds[i]) := itmAt_at hlt
        have HBAD : Hid (itmAt ds i = false → basketB ds ship = false) := fun h => HV.out.trans (by rw [allR_not hlt h]; rfl)
        have HNX : Hid (itmAt ds i = true → (List.range (i + 1)).all (itmAt ds) = true) := fun h => allR_succ hall.out h
        clear hc hOI hall
        generalize ds[i] = d at *
        unfold itmB at HAT
        obtain ⟨H2, hl2, hbx, hin2⟩ := hin.out.put (.cells #[.string d.key, .int .i64 d.cents, .int .i64 d.many, .slice d.ta d.tags.length d.tc] 42)
        have hb2 := Lib.hid (hb.out.alloc hb.out.size (.cells #[.string d.key, .int .i64 d.cents, .int .i64 d.many, .slice d.ta d.tags.length d.tc] 42))
        have HL2 := Lib.hid hl2
        have HBX := Lib.hid hbx
        have HIN2 := Lib.hid hin2
        have HTG2 := Lib.hid (HTG.out.le hl2)
        have HBS2 := Lib.hid (hl2 _ _ HBS.out)
        clear hl2 hbx hin2 hin HTG
        go_upto_region 6 with (fail)
        clear c0 c1 c2 c3
        generalize hg : wr.heap.size = g at *
        have HG := Lib.hid hg
        clear hg
        generalize wr.alloc (.cells #[.string d.key, .int .i64 d.cents, .int .i64 d.many, .slice d.ta d.tags.length d.tc] 42) = W1 at *
        have hk := HIN2.out _ _ HBX.out
        have y0 := cell_h hk 0 (v := .string d.key) rfl
        have y1 := cell_h hk 1 (v := .int .i64 d.cents) rfl
        have y2 := cell_h hk 2 (v := .int .i64 d.many) rfl
        have y3 := cell_h hk 3 (v := .slice d.ta d.tags.length d.tc) rfl
        have hk := HIN2.out _ _ HBS2.out
        have b0 := cell_h hk 0 (v := .slice (some ⟨b, off, none⟩) ds.length cap) rfl
        clear hk
        go_wp2_with fail
        refine (isKey_any d.key _ (by omega)).mono ?_
        rintro e w' ⟨rfl, rfl⟩
        generalize isKey d.key = q at HAT
        cases q with
        | false =>
          have hv := Lib.hid (HBAD.out (HAT.out.trans (by simp)))
          go_wp2_with fail
          go_ret
          exact ErrPost.bad (by omega) hv.out hb2.out
        | true =>
        have hii : (i : Int) ≤ cap := by omega
        have hti : (ds.take i).length = i := by simp; omega
        have h46 := containsFunc_It H2 fIt 84 [.pointer (some ⟨g, 0, none⟩)] (sameIt d.key) (ds.take i) (fun W x _ hW => checkBasket1_any H2 g d x HBX.out W hW) (fun _ _ => by kernel_rfl) (some ⟨b, off, none⟩) cap W1 HIN2.out ((HR.out.take i).le HL2.out) (by rw [hti]; omega)
        rw [hti] at h46
        have H46 := Lib.hid h46
        clear h46 hti
        go_wp2_with fail
        refine H46.out.mono ?_
        rintro e W2 ⟨rfl, hbW2⟩
        have HB3 := Lib.hid (hb2.out.trans (hbW2.mono hb2.out.size))
        have HIN3 := Lib.hid (HIN2.out.below hbW2)
        clear hbW2 hb2 HIN2 y0 y1 y2 y3 H46 b0
        have hk := HIN3.out _ _ HBX.out
        have y0 := cell_h hk 0 (v := .string d.key) rfl
        have y1 := cell_h hk 1 (v := .int .i64 d.cents) rfl
        have y2 := cell_h hk 2 (v := .int .i64 d.many) rfl
        have y3 := cell_h hk 3 (v := .slice d.ta d.tags.length d.tc) rfl
        clear hk
        generalize anyF (sameIt d.key) (ds.take i) = q at HAT
        cases q with
        | true =>
          have hv := Lib.hid (HBAD.out (HAT.out.trans (by simp)))
          go_wp2_with fail
          go_ret
          exact ErrPost.bad (by omega) hv.out HB3.out
        | false =>
        go_wp2_with fail
        refine (inW_any _ _ _ _).mono ?_
        rintro e w' ⟨rfl, rfl⟩
        generalize inB 0 d.cents 10000000 = q at HAT
        cases q with
        | false =>
          have hv := Lib.hid (HBAD.out (HAT.out.trans (by simp)))
          go_wp2_with fail
          go_ret
          exact ErrPost.bad (by omega) hv.out HB3.out
        | true =>
        go_wp2_with fail
        refine (inW_any _ _ _ _).mono ?_
        rintro e w' ⟨rfl, rfl⟩
        generalize inB 1 d.many 100 = q at HAT
        cases q with
        | false =>
          have hv := Lib.hid (HBAD.out (HAT.out.trans (by simp)))
          go_wp2_with fail
          go_ret
          exact ErrPost.bad (by omega) hv.out HB3.out
        | true =>
        go_wp2_with fail
        refine (checkTags_any H2 (.slice d.ta d.tags.length d.tc) d.tags _ HIN3.out HTG2.out).mono ?_
        rintro e W5 ⟨n, rfl, hn, hbW5⟩
        have HB5 := Lib.hid (HB3.out.trans (hbW5.mono HB3.out.size))
        have HIN5 : Hid (H1.In W5) := (HIN3.out.below hbW5).le HL2.out
        have HA2 : Hid (itmAt ds i = tagsB d.tags) := HAT.out.trans (by simp)
        clear hbW5 HB3 HIN3 y0 y1 y2 y3 HAT
        generalize tagsB d.tags = q at *
        cases q with
        | false =>
          have hv := Lib.hid (HBAD.out HA2.out)
          have hn0 : (n != 0) = true := by simp; intro c; have := hn.1 c; cases this
          have hn1 : n ≠ 0 := by simpa using hn0
          clear hn HA2
          go_wp2_with fail
          go_ret
          exact ErrPost.bad hn1 hv.out HB5.out
        | true =>
          have hn1 : n = 0 := hn.2 rfl
          subst hn1
          have hv := Lib.hid (HNX.out HA2.out)
          clear hn HA2
          go_wp2_with fail
          go_roundw
          case rel => exact ⟨i + 1, by omega, by go_num, hv, HB5, HIN5⟩
          case measure => simp [intOf]; omega
      · have hie : i = ds.length := by omega
        subst hie
        have hv : Hid (basketB ds ship = inB 0 ship 1000000000000) := HV.out.trans (by rw [hall.out]; rfl)
        have hk := hin.out _ _ HBS.out
        have b1 := cell_h hk 1 (v := .int .i64 ship) rfl
        clear hk HV hall
        go_wp2_with fail
        refine (inW_any _ _ _ _).mono ?_
        rintro e w' ⟨rfl, rfl⟩
        generalize inB 0 ship 1000000000000 = q at hv
        cases q with
        | false =>
          go_wp2_with fail
          go_ret
          exact ErrPost.bad (by omega) hv.out hb.out
        | true =>
          go_wp2_with fail
          go_ret
          exact ErrPost.good hv.out hb.out
def checkB (ds : List OfD) (xs : List ItD) (ship at_ : Int) : Bool := offersB ds && basketB xs ship && inB 0 at_ 4321439
set_option maxHeartbeats 4000000 in
set_option maxRecDepth 100000 in
theorem checkAll_any (H : Frz) (A B : Option Addr) (cap capb : Nat) (ds : List OfD) (xs : List ItD) (ship at_ : Int) (w : World) (hH : H.In w) (hR : Rw H A 12 fOf ds) (hsz : ∀ d ∈ ds, OfIn H d) (hl : ds.length ≤ 1000000) (hcap : ds.length ≤ cap)
    (hRb : Rw H B 4 fIt xs) (hszb : ∀ d ∈ xs, ItIn H d) (hlb : xs.length ≤ 1000000) (hcapb : xs.length ≤ capb) :
    Calls Tryz.prog 27 #[.slice A ds.length cap, .agg #[.slice B xs.length capb, .int .i64 ship], .int .i64 at_] w (ErrPost (checkB ds xs ship at_) w) := by
  obtain ⟨H1, hl1, hbs, hin1⟩ := hH.put (.cells #[.slice B xs.length capb, .int .i64 ship] 30)
  have HBS := Lib.hid hbs
  have HB0 := Lib.hid (new1 (w := w) (.cells #[.slice B xs.length capb, .int .i64 ship] 30))
  have HC1 := Lib.hid (fun W (hW : H1.In W) => checkOffers_any H1 A cap ds W hW (hR.le hl1) (fun d hd => (hsz d hd).le hl1) hl hcap)
  have HC2 := Lib.hid (fun W (hW : H1.In W) => checkBasket_any H1 B capb xs ship W hW (hRb.le hl1) (fun d hd => (hszb d hd).le hl1) hlb hcapb)
  have HH := Lib.hid hin1
  have HV : Hid (checkB ds xs ship at_ = (offersB ds && basketB xs ship && inB 0 at_ 4321439)) := rfl
  generalize checkB ds xs ship at_ = r at *
  clear hH hR hsz hRb hszb hl1 hbs hin1
  go_enter Tryz.func27, Tryz.ntmps27
  go_upto_region 1 with (fail)
  generalize w.alloc (.cells #[.slice B xs.length capb, .int .i64 ship] 30) = W0 at *
  go_wp2_with fail
  refine (HC1.out _ HH.out).mono ?_
  rintro e W1 ⟨n, rfl, hn, hbW⟩
  have HB1 := Lib.hid (HB0.out.trans (hbW.mono HB0.out.size))
  have HIN1 := Lib.hid (HH.out.below hbW)
  clear hbW HB0 HH
  generalize offersB ds = q at *
  cases q with
  | false =>
    have hn0 : (n != 0) = true := by simp; intro c; have := hn.1 c; cases this
    have hn1 : n ≠ 0 := by simpa using hn0
    have HV2 := Lib.hid (HV.out.trans (by simp : _ = false))
    clear hn HV
    go_wp2_with fail
    go_ret
    exact ErrPost.bad hn1 HV2.out HB1.out
  | true =>
  have hn1 : n = 0 := hn.2 rfl
  subst hn1
  clear hn
  have hk := HIN1.out _ _ HBS.out
  have b0 := cell_h hk 0 (v := .slice B xs.length capb) rfl
  have b1 := cell_h hk 1 (v := .int .i64 ship) rfl
  clear hk
  go_wp2_with fail
  refine (HC2.out _ HIN1.out).mono ?_
  rintro e W2 ⟨n, rfl, hn, hbW⟩
  have HB2 := Lib.hid (HB1.out.trans (hbW.mono HB1.out.size))
  clear hbW HB1 b0 b1 HIN1
  generalize basketB xs ship = q at *
  cases q with
  | false =>
    have hn0 : (n != 0) = true := by simp; intro c; have := hn.1 c; cases this
    have hn1 : n ≠ 0 := by simpa using hn0
    have HV2 := Lib.hid (HV.out.trans (by simp : _ = false))
    clear hn HV
    go_wp2_with fail
    go_ret
    exact ErrPost.bad hn1 HV2.out HB2.out
  | true =>
  have hn1 : n = 0 := hn.2 rfl
  subst hn1
  clear hn
  go_wp2_with fail
  refine (ofMoment_any _ _).mono ?_
  rintro e w' ⟨rfl, rfl⟩
  have HV2 : Hid (r = (decide (0 ≤ at_) && decide (at_ ≤ 4321439))) := HV.out.trans (by simp [inB])
  generalize (decide (0 ≤ at_) && decide (at_ ≤ 4321439)) = q at *
  cases q with
  | false =>
    go_wp2_with fail
    go_ret
    exact ErrPost.bad (by omega) HV2.out HB2.out
  | true =>
    go_wp2_with fail
    go_ret
    exact ErrPost.good HV2.out HB2.out
end Go.Proofs.YtihcmifikbkbcaaGreat

/- Strings as keys of maps. -/
namespace Go.Proofs.YtihcmifikbkbcaaGreat
set_option linter.unusedVariables false
open Go.RowKit
/-- A string as a key. -/
def codeLit (s : ByteArray) : Lit := .string s.data.toList
theorem bytes_ext' {a b : ByteArray} (h : a.data.toList = b.data.toList) : a = b := by
  cases a; cases b
  simp only [Array.toList_inj] at h
  rw [h]
theorem sameKey_code (a b : ByteArray) : (codeLit a).sameKey (codeLit b) = (b.toList == a.toList) := by
  unfold codeLit Lit.sameKey
  rw [Bool.eq_iff_iff]
  simp only [beq_iff_eq]
  constructor
  · intro h; rw [show a = b from bytes_ext' h]
  · intro h
    rw [ByteArray.toList_eq, ByteArray.toList_eq] at h
    exact h.symm
theorem strKeyed : Maps.Keyed Tryz.prog 9 := Maps.string_keyed Tryz.underlying9
theorem strKey {s : ByteArray} (h : s.size ≤ 1000000000) : keyOf Tryz.prog 9 (.string s) = some (codeLit s) := Go.WideMaps.keyOf_string_mk Tryz.underlying9 (by unfold maxLen; omega)
theorem zeroBool (w : World) : (zeroValue 4).run Tryz.prog w = .ok (.bool false) w := by kernel_rfl
theorem wpList_mp_getv {P : Program} (w : World) {ops : Array Oper} {rest : List Oper} {o : Oper} {a : Act} {Q : Exit → Act → World → Prop}
    (hg : o.guard = none) (mo x : Operand) (t : TypeId) (hop : o.op = Op.lookup t mo x false)
    (k e : TypeId) (K : Maps.Keyed P k) (ht : P.underlying t = some (.map k e)) (z : Value) (hz : (zeroValue e).run P w = .ok z w) (b n : Nat) (m : Lit → Option Value)
    (hm : a.eval mo = .map (some b)) (hown : Mp P k w b n m) (key : Value) (kl : Lit) (hx : a.eval x = key) (hkey : keyOf P k key = some kl) (v : Value) (hv : (m kl).getD z = v)
    (hK : wpList P ops Q rest (a.put o.dst v) w) :
    wpList P ops Q (o :: rest) a w :=
  wpList_mp_get w hg mo x t hop k e K ht z hz b n m hm hown key kl hx hkey (by rw [hv]; exact hK)
/-- A set of strings as a map of bools. -/
def setMp (ks : List ByteArray) : Lit → Option Value := fun l => if ks.any (fun k => l.sameKey (codeLit k)) then some (.bool true) else none
def hasK (ks : List ByteArray) (k : ByteArray) : Bool := ks.any fun x => x.toList == k.toList
theorem setMp_nil : setMp [] = mpNew := rfl
theorem setMp_get (ks : List ByteArray) (k : ByteArray) : (setMp ks (codeLit k)).getD (.bool false) = .bool (hasK ks k) := by
  unfold setMp hasK
  have : (fun x : ByteArray => (codeLit k).sameKey (codeLit x)) = fun x => x.toList == k.toList := by
    funext x
    rw [sameKey_code]
  rw [this]
  cases ks.any fun x => x.toList == k.toList <;> rfl
theorem setMp_snoc (ks : List ByteArray) (s : ByteArray) : mpSet (setMp ks) (codeLit s) (.bool true) = setMp (ks ++ [s]) := by
  funext l
  unfold mpSet setMp
  rw [List.any_append]
  by_cases e : l.sameKey (codeLit s) = true
  · simp [e]
  · have e' : l.sameKey (codeLit s) = false := by simpa using e
    simp [e']
end Go.Proofs.YtihcmifikbkbcaaGreat

/- Offers: what matches, what fits, what goes together. -/
namespace Go.Proofs.YtihcmifikbkbcaaGreat
set_option linter.unusedVariables false
open Go.RowKit
theorem contains_S (H : Frz) (v : Value) (ss : List ByteArray) (x : ByteArray) (w : World) (hH : H.In w) (hv : Ss H v ss) :
    Calls Tryz.prog 86 #[v, .string x] w fun e w' => e = .returned (.bool (hasS ss x)) ∧ w = w' := by
  obtain ⟨A, cap, rfl, hcap, hR, hsz, hlen⟩ := hv
  by_cases h0 : ss = []
  · subst h0
    refine (Tryz.slices_Contains_string_empty A cap x w).mono ?_
    rintro e w' ⟨rfl, rfl⟩
    exact ⟨rfl, rfl⟩
  · obtain ⟨b, off, e, _⟩ := hR 0 (List.length_pos_iff.2 h0)
    subst e
    refine (Tryz.slices_Contains_string b off ss.length cap ss x w (Nat.le_refl _) (by omega) (fun j hj => ?_)).mono ?_
    · obtain ⟨b2, off2, e2, _, hc⟩ := Ss.at_ hR hH hj
      injection e2 with e2
      injection e2 with e3 e4
      subst e3 e4
      rw [hc, List.getD_eq_getElem?_getD, List.getElem?_eq_getElem hj]; rfl
    · rintro e w' ⟨rfl, rfl⟩
      exact ⟨by rw [List.take_length]; rfl, rfl⟩
set_option maxHeartbeats 1000000 in
theorem matches1_any (H : Frz) (b : Nat) (x : ItD) (hx : ItIn H x) (hb : H b = some (.cells #[.string x.key, .int .i64 x.cents, .int .i64 x.many, .slice x.ta x.tags.length x.tc] 42 (0, 0))) (s : ByteArray) (w : World) (hH : H.In w) :
    Calls Tryz.prog 85 #[.string s, .pointer (some ⟨b, 0, none⟩)] w fun e w' => e = .returned (.bool (hasS x.tags s)) ∧ Below w.heap.size w w' := by
  have y3 : w.cell? ⟨b, 3, none⟩ = some (.slice x.ta x.tags.length x.tc) := cell_h (hH _ _ hb) 3 rfl
  have HC := Lib.hid (contains_S H _ x.tags s w hH hx.tags)
  clear hH hb hx
  generalize hq : hasS x.tags s = q at HC
  have HQ := Lib.hid hq
  clear hq
  go_enter Tryz.func85, Tryz.ntmps85
  go_wp2_with fail
  refine HC.out.mono ?_
  rintro e w' ⟨rfl, rfl⟩
  go_wp2_with fail
  go_ret
  exact ⟨rfl, Below.refl _ _⟩
theorem anyF_eq {D : Type} (p : D → Bool) (ds : List D) : anyF p ds = ds.any p := rfl
set_option maxHeartbeats 2000000 in
set_option maxRecDepth 100000 in
theorem matches_any (H : Frz) (d : OfD) (x : ItD) (w : World) (hH : H.In w) (hd : OfIn H d) (hx : ItIn H x) :
    Calls Tryz.prog 61 #[.agg #[.string d.key, .int .i64 d.kind, .int .i64 d.a, .int .i64 d.b, .slice d.ta d.tags.length d.tc, .int .i64 d.least, .int .i64 d.most, .string d.group, .bool d.alone, .int .i64 d.order, .int .i64 d.first, .int .i64 d.last], .agg #[.string x.key, .int .i64 x.cents, .int .i64 x.many, .slice x.ta x.tags.length x.tc]] w fun e w' => e = .returned (.bool (matB d x)) ∧ Below w.heap.size w w' := by
  obtain ⟨H1, hl1, hb1, hin1⟩ := hH.put (.cells #[.string d.key, .int .i64 d.kind, .int .i64 d.a, .int .i64 d.b, .slice d.ta d.tags.length d.tc, .int .i64 d.least, .int .i64 d.most, .string d.group, .bool d.alone, .int .i64 d.order, .int .i64 d.first, .int .i64 d.last] 50)
  obtain ⟨H2, hl2, hb2, hin2⟩ := hin1.put (.cells #[.string x.key, .int .i64 x.cents, .int .i64 x.many, .slice x.ta x.tags.length x.tc] 42)
  have HBX := Lib.hid hb2
  have HBD := Lib.hid (hl2 _ _ hb1)
  have HIN := Lib.hid hin2
  have HD := Lib.hid (hd.le (hl1.trans hl2))
  have HX := Lib.hid (hx.le (hl1.trans hl2))
  have HB := Lib.hid (new2 (w := w) (.cells #[.string d.key, .int .i64 d.kind, .int .i64 d.a, .int .i64 d.b, .slice d.ta d.tags.length d.tc, .int .i64 d.least, .int .i64 d.most, .string d.group, .bool d.alone, .int .i64 d.order, .int .i64 d.first, .int .i64 d.last] 50) (.cells #[.string x.key, .int .i64 x.cents, .int .i64 x.many, .slice x.ta x.tags.length x.tc] 42))
  have HV : Hid (matB d x = (d.tags.isEmpty || anyF (hasS x.tags) d.tags)) := rfl
  generalize matB d x = r at HV
  clear hH hd hx hl1 hl2 hb1 hb2 hin1 hin2
  go_enter Tryz.func61, Tryz.ntmps61
  go_upto_region 1 with (fail)
  have HG : Hid ((w.alloc (.cells #[.string d.key, .int .i64 d.kind, .int .i64 d.a, .int .i64 d.b, .slice d.ta d.tags.length d.tc, .int .i64 d.least, .int .i64 d.most, .string d.group, .bool d.alone, .int .i64 d.order, .int .i64 d.first, .int .i64 d.last] 50)).heap.size = (w.alloc (.cells #[.string d.key, .int .i64 d.kind, .int .i64 d.a, .int .i64 d.b, .slice d.ta d.tags.length d.tc, .int .i64 d.least, .int .i64 d.most, .string d.group, .bool d.alone, .int .i64 d.order, .int .i64 d.first, .int .i64 d.last] 50)).heap.size) := rfl
  generalize (w.alloc (.cells #[.string d.key, .int .i64 d.kind, .int .i64 d.a, .int .i64 d.b, .slice d.ta d.tags.length d.tc, .int .i64 d.least, .int .i64 d.most, .string d.group, .bool d.alone, .int .i64 d.order, .int .i64 d.first, .int .i64 d.last] 50)).alloc (.cells #[.string x.key, .int .i64 x.cents, .int .i64 x.many, .slice x.ta x.tags.length x.tc] 42) = W2 at *
  have hk := HIN.out _ _ HBD.out
  have y4 := cell_h hk 4 (v := .slice d.ta d.tags.length d.tc) rfl
  clear hk
  have HC : ∀ A cap, Ss H2 (.slice A d.tags.length cap) d.tags → Hid (Calls Tryz.prog 68 #[.slice A d.tags.length cap, .func (.func 85) #[] [.pointer (some ⟨(w.alloc (.cells #[.string d.key, .int .i64 d.kind, .int .i64 d.a, .int .i64 d.b, .slice d.ta d.tags.length d.tc, .int .i64 d.least, .int .i64 d.most, .string d.group, .bool d.alone, .int .i64 d.order, .int .i64 d.first, .int .i64 d.last] 50)).heap.size, 0, none⟩)].toArray] W2 fun e w' => e = .returned (.bool (anyF (hasS x.tags) d.tags)) ∧ Below W2.heap.size W2 w') := by
    rintro A cap ⟨A', cap', hv, _, hR, _, hlen⟩
    injection hv with e1 e2 e3
    subst e1 e3
    exact containsFunc_Str H2 fS 85 [.pointer (some ⟨(w.alloc (.cells #[.string d.key, .int .i64 d.kind, .int .i64 d.a, .int .i64 d.b, .slice d.ta d.tags.length d.tc, .int .i64 d.least, .int .i64 d.most, .string d.group, .bool d.alone, .int .i64 d.order, .int .i64 d.first, .int .i64 d.last] 50)).heap.size, 0, none⟩)] (hasS x.tags) d.tags (fun W s _ hW => matches1_any H2 _ x HX.out HBX.out s W hW) (fun _ _ => by kernel_rfl) A cap W2 HIN.out hR hlen
  have HC2 := HC d.ta d.tc HD.out.tags
  clear HC
  simp only [sizeA] at HC2
  by_cases h0 : d.tags = []
  · have k0 : ((d.tags.length : Int) == 0) = true := by simp [h0]
    have HV2 : Hid (r = true) := HV.out.trans (by rw [h0]; rfl)
    clear HC2 h0
    go_wp2_with fail
    go_ret
    exact ⟨ret_bool' HV2.out.symm, HB.out⟩
  · have k0 : ((d.tags.length : Int) == 0) = false := by simp; exact h0
    have HV2 : Hid (r = anyF (hasS x.tags) d.tags) := HV.out.trans (by rw [List.isEmpty_eq_false_iff.2 h0]; rfl)
    generalize anyF (hasS x.tags) d.tags = q at *
    clear h0
    go_wp2_with fail
    refine HC2.out.mono ?_
    rintro e w' ⟨rfl, hb⟩
    have HB2 := Lib.hid (HB.out.trans (hb.mono HB.out.size))
    clear hb HC2
    go_wp2_with fail
    go_ret
    exact ⟨ret_bool' HV2.out.symm, HB2.out⟩
end Go.Proofs.YtihcmifikbkbcaaGreat

/- Offers: which fit; which go together. -/
namespace Go.Proofs.YtihcmifikbkbcaaGreat
set_option linter.unusedVariables false
open Go.RowKit
/-- Items whose numbers are right. -/
def ItBd (xs : List ItD) : Prop := ∀ x ∈ xs, 0 ≤ x.cents ∧ x.cents ≤ 10000000 ∧ 1 ≤ x.many ∧ x.many ≤ 100
def fitV (d : OfD) (x : ItD) : Int := if d.kind = 4 then x.cents * x.many else if matB d x = true then x.cents * x.many else 0
def fitAll (d : OfD) (xs : List ItD) : Int := (xs.map (fitV d)).sum
def fitsN (d : OfD) (xs : List ItD) (ship at_ : Int) : Int :=
  if at_ < d.first then 1 else if d.last ≤ at_ then 2 else if (if d.kind = 4 then ship else fitAll d xs) = 0 then 3 else if fitAll d xs < d.least then 4 else 0
theorem mul_bd {c m : Int} (h1 : 0 ≤ c) (h2 : c ≤ 10000000) (h3 : 1 ≤ m) (h4 : m ≤ 100) : 0 ≤ c * m ∧ c * m ≤ 1000000000 := by
  constructor
  · exact Int.mul_nonneg h1 (by omega)
  · have : c * m ≤ 10000000 * 100 := Int.mul_le_mul h2 h4 (by omega) (by omega)
    omega
theorem fitV_bd {d : OfD} {x : ItD} (h : 0 ≤ x.cents ∧ x.cents ≤ 10000000 ∧ 1 ≤ x.many ∧ x.many ≤ 100) : 0 ≤ fitV d x ∧ fitV d x ≤ 1000000000 := by
  have := mul_bd h.1 h.2.1 h.2.2.1 h.2.2.2
  unfold fitV
  split
  · exact this
  · split
    · exact this
    · omega
theorem fitAll_bd {d : OfD} : ∀ {xs : List ItD}, ItBd xs → 0 ≤ fitAll d xs ∧ fitAll d xs ≤ 1000000000 * xs.length
  | [], _ => ⟨Int.le_refl _, Int.le_refl _⟩
  | x :: xs, h => by
    have h1 := fitAll_bd (d := d) (xs := xs) (fun y hy => h y (by simp [hy]))
    have h2 := fitV_bd (d := d) (h x (by simp))
    unfold fitAll at *
    simp only [List.map_cons, List.sum_cons, List.length_cons]
    omega
theorem fitAll_succ (d : OfD) {xs : List ItD} {i : Nat} (h : i < xs.length) : fitAll d (xs.take (i + 1)) = fitAll d (xs.take i) + fitV d xs[i] := by
  unfold fitAll
  rw [List.take_succ_eq_append_getElem h, List.map_append, List.sum_append_int]
  simp
theorem ItBd.take {xs : List ItD} (h : ItBd xs) (i : Nat) : ItBd (xs.take i) := fun x hx => h x (List.mem_of_mem_take hx)
set_option maxHeartbeats 4000000 in
set_option maxRecDepth 100000 in
theorem fits_any (H : Frz) (d : OfD) (B : Option Addr) (capb : Nat) (xs : List ItD) (ship at_ : Int) (w : World) (hH : H.In w) (hd : OfIn H d) (hR : Rw H B 4 fIt xs) (hx : ∀ x ∈ xs, ItIn H x) (hb : ItBd xs) (hl : xs.length ≤ 50) :
    Calls Tryz.prog 31 #[.agg #[.string d.key, .int .i64 d.kind, .int .i64 d.a, .int .i64 d.b, .slice d.ta d.tags.length d.tc, .int .i64 d.least, .int .i64 d.most, .string d.group, .bool d.alone, .int .i64 d.order, .int .i64 d.first, .int .i64 d.last], .agg #[.slice B xs.length capb, .int .i64 ship], .int .i64 at_] w fun e w' => e = .returned (.int .i64 (fitsN d xs ship at_)) ∧ Below w.heap.size w w' := by
  obtain ⟨H1, hl1, hb1, hin1⟩ := hH.put (.cells #[.string d.key, .int .i64 d.kind, .int .i64 d.a, .int .i64 d.b, .slice d.ta d.tags.length d.tc, .int .i64 d.least, .int .i64 d.most, .string d.group, .bool d.alone, .int .i64 d.order, .int .i64 d.first, .int .i64 d.last] 50)
  obtain ⟨H2, hl2, hb2, hin2⟩ := hin1.put (.cells #[.slice B xs.length capb, .int .i64 ship] 30)
  have HBB := Lib.hid hb2
  have HBD := Lib.hid (hl2 _ _ hb1)
  have HIN := Lib.hid hin2
  have HD := Lib.hid (hd.le (hl1.trans hl2))
  have HX := Lib.hid (fun x h => (hx x h).le (hl1.trans hl2))
  have HR := Lib.hid (hR.le (hl1.trans hl2))
  have HBD2 := Lib.hid hb
  have HB := Lib.hid (new2 (w := w) (.cells #[.string d.key, .int .i64 d.kind, .int .i64 d.a, .int .i64 d.b, .slice d.ta d.tags.length d.tc, .int .i64 d.least, .int .i64 d.most, .string d.group, .bool d.alone, .int .i64 d.order, .int .i64 d.first, .int .i64 d.last] 50) (.cells #[.slice B xs.length capb, .int .i64 ship] 30))
  have HV : Hid (fitsN d xs ship at_ = if at_ < d.first then 1 else if d.last ≤ at_ then 2 else if (if d.kind = 4 then ship else fitAll d xs) = 0 then 3 else if fitAll d xs < d.least then 4 else 0) := rfl
  generalize fitsN d xs ship at_ = r at HV ⊢
  clear hH hd hR hx hb hl1 hl2 hb1 hb2 hin1 hin2
  go_enter Tryz.func31, Tryz.ntmps31
  go_upto_region 2 with (fail)
  simp only [sizeA] at HBB
  generalize (w.alloc (.cells #[.string d.key, .int .i64 d.kind, .int .i64 d.a, .int .i64 d.b, .slice d.ta d.tags.length d.tc, .int .i64 d.least, .int .i64 d.most, .string d.group, .bool d.alone, .int .i64 d.order, .int .i64 d.first, .int .i64 d.last] 50)).alloc (.cells #[.slice B xs.length capb, .int .i64 ship] 30) = W2 at *
  have hk := HIN.out _ _ HBB.out
  have b0 := cell_h hk 0 (v := .slice B xs.length capb) rfl
  clear hk
  go_wp2_with fail
  clear b0
  go_loopw [7, 14] (fun a t wr => ∃ (i : Nat) (s : Int), i ≤ xs.length ∧ t = .int .i64 i ∧ a = .int .i64 s ∧ 0 ≤ s ∧ s ≤ 1000000000 * i ∧ Hid (s = fitAll d (xs.take i)) ∧ Hid (Below w.heap.size w wr) ∧ Hid (H2.In wr)) (fun _ t _ => xs.length - (intOf t).toNat)
  case atStart => exact ⟨0, 0, by omega, rfl, rfl, by omega, by omega, rfl, HB, HIN⟩
  case round =>
    obtain ⟨i, s, hi, rfl, rfl, hs0, hs1, hs, hbw, hin⟩ := hrel
    clear HB HIN
    have hk := hin.out _ _ HBD.out
    have y0 := cell_h hk 0 (v := .string d.key) rfl
    have y1 := cell_h hk 1 (v := .int .i64 d.kind) rfl
    have y2 := cell_h hk 2 (v := .int .i64 d.a) rfl
    have y3 := cell_h hk 3 (v := .int .i64 d.b) rfl
    have y4 := cell_h hk 4 (v := .slice d.ta d.tags.length d.tc) rfl
    have y5 := cell_h hk 5 (v := .int .i64 d.least) rfl
    have y6 := cell_h hk 6 (v := .int .i64 d.most) rfl
    have y7 := cell_h hk 7 (v := .string d.group) rfl
    have y8 := cell_h hk 8 (v := .bool d.alone) rfl
    have y9 := cell_h hk 9 (v := .int .i64 d.order) rfl
    have y10 := cell_h hk 10 (v := .int .i64 d.first) rfl
    have y11 := cell_h hk 11 (v := .int .i64 d.last) rfl
    clear hk
    by_cases hlt : i < xs.length
    · obtain ⟨b, off, hA, hbl, hc⟩ := HR.out.at_ hin.out hlt (by omega)
      subst hA
      have c0 : wr.cell? ⟨b, off + i * 4, none⟩ = some (.string xs[i].key) := hc 0 (by omega)
      have c1 : wr.cell? ⟨b, off + i * 4 + 1, none⟩ = some (.int .i64 xs[i].cents) := hc 1 (by omega)
      have c2 : wr.cell? ⟨b, off + i * 4 + 2, none⟩ = some (.int .i64 xs[i].many) := hc 2 (by omega)
      have c3 : wr.cell? ⟨b, off + i * 4 + 3, none⟩ = some (.slice xs[i].ta xs[i].tags.length xs[i].tc) := hc 3 (by omega)
      have HXI := Lib.hid (HX.out _ (List.getElem_mem hlt))
      have hbd := HBD2.out _ (List.getElem_mem hlt)
      have HS2 : Hid (fitAll d (xs.take (i + 1)) = s + fitV d xs[i]) := (fitAll_succ d hlt).trans (by rw [hs.out])
      have hmb := mul_bd hbd.1 hbd.2.1 hbd.2.2.1 hbd.2.2.2
      clear hc hs
      generalize xs[i] = x at *
      obtain ⟨p, hp⟩ : ∃ p, p = x.cents * x.many := ⟨_, rfl⟩
      have hm1 : IntKind.i64.wrap (x.cents * x.many) = p := by rw [hp]; exact IntWalk.i64_in _ (by omega)
      rw [← hp] at hmb
      have HFV : Hid (fitV d x = if d.kind = 4 then p else if matB d x = true then p else 0) := by show _ = _; unfold fitV; rw [← hp]
      generalize fitV d x = fv at *
      have HM1 := Lib.hid hm1
      clear hp hm1 hbd
      have z0 : (wr.alloc (.cells #[.string x.key, .int .i64 x.cents, .int .i64 x.many, .slice x.ta x.tags.length x.tc] 42)).cell? ⟨wr.heap.size, 0, none⟩ = some (.string x.key) := newc 0 rfl
      have z1 : (wr.alloc (.cells #[.string x.key, .int .i64 x.cents, .int .i64 x.many, .slice x.ta x.tags.length x.tc] 42)).cell? ⟨wr.heap.size, 1, none⟩ = some (.int .i64 x.cents) := newc 1 rfl
      have z2 : (wr.alloc (.cells #[.string x.key, .int .i64 x.cents, .int .i64 x.many, .slice x.ta x.tags.length x.tc] 42)).cell? ⟨wr.heap.size, 2, none⟩ = some (.int .i64 x.many) := newc 2 rfl
      have z3 : (wr.alloc (.cells #[.string x.key, .int .i64 x.cents, .int .i64 x.many, .slice x.ta x.tags.length x.tc] 42)).cell? ⟨wr.heap.size, 3, none⟩ = some (.slice x.ta x.tags.length x.tc) := newc 3 rfl
      have HBN := Lib.hid (new1 (w := wr) (.cells #[.string x.key, .int .i64 x.cents, .int .i64 x.many, .slice x.ta x.tags.length x.tc] 42))
      have hin2 := Lib.hid (hin.out.alloc (.cells #[.string x.key, .int .i64 x.cents, .int .i64 x.many, .slice x.ta x.tags.length x.tc] 42))
      have hbw2 := Lib.hid (hbw.out.trans (HBN.out.mono hbw.out.size))
      go_upto_region 5 with (fail)
      clear c0 c1 c2 c3 y0 y1 y2 y3 y4 y5 y6 y7 y8 y9 y10 y11
      generalize wr.alloc (.cells #[.string x.key, .int .i64 x.cents, .int .i64 x.many, .slice x.ta x.tags.length x.tc] 42) = W3 at *
      have hk := hin2.out _ _ HBD.out
      have y0 := cell_h hk 0 (v := .string d.key) rfl
      have y1 := cell_h hk 1 (v := .int .i64 d.kind) rfl
      have y2 := cell_h hk 2 (v := .int .i64 d.a) rfl
      have y3 := cell_h hk 3 (v := .int .i64 d.b) rfl
      have y4 := cell_h hk 4 (v := .slice d.ta d.tags.length d.tc) rfl
      have y5 := cell_h hk 5 (v := .int .i64 d.least) rfl
      have y6 := cell_h hk 6 (v := .int .i64 d.most) rfl
      have y7 := cell_h hk 7 (v := .string d.group) rfl
      have y8 := cell_h hk 8 (v := .bool d.alone) rfl
      have y9 := cell_h hk 9 (v := .int .i64 d.order) rfl
      have y10 := cell_h hk 10 (v := .int .i64 d.first) rfl
      have y11 := cell_h hk 11 (v := .int .i64 d.last) rfl
      clear hk
      have J0 := lift_cell z1
      have J1 := lift_cell z2
      have HXS : Hid (∀ W, Below W3.heap.size W3 W → W.cell? ⟨wr.heap.size, 1, none⟩ = some (.int .i64 x.cents) ∧ W.cell? ⟨wr.heap.size, 2, none⟩ = some (.int .i64 x.many)) := fun W hW => ⟨J0 W hW, J1 W hW⟩
      clear J0 J1
      by_cases hk4 : d.kind = 4
      · have k4 : (d.kind == 4) = true := by simpa using hk4
        have HS3 : Hid (fitAll d (xs.take (i + 1)) = s + p) := HS2.out.trans (by rw [HFV.out, if_pos hk4])
        clear hk4 HS2 HFV HXS
        have hm1 := HM1.out
        go_wp2_with fail
        go_roundw
        case rel => exact ⟨i + 1, s + p, by omega, by go_num, rfl, by omega, by omega, HS3.out.symm, hbw2, hin2⟩
        case measure => simp [intOf]; omega
      · have k4 : (d.kind == 4) = false := by simpa using hk4
        go_wp2_with fail
        refine (matches_any H2 d x _ hin2.out HD.out HXI.out).mono ?_
        rintro e W4 ⟨rfl, hb4⟩
        have HBW4 := Lib.hid (hbw2.out.trans (hb4.mono hbw2.out.size))
        have HIN4 := Lib.hid (hin2.out.below hb4)
        obtain ⟨x1, x2⟩ := HXS.out _ hb4
        clear y0 y1 y2 y3 y4 y5 y6 y7 y8 y9 y10 y11 z0 z1 z2 z3 hb4 HXS
        generalize matB d x = q at *
        cases q with
        | true =>
          have HS3 : Hid (fitAll d (xs.take (i + 1)) = s + p) := HS2.out.trans (by rw [HFV.out, if_neg hk4]; rfl)
          clear hk4 HS2 HFV
          have hm1 := HM1.out
          go_wp2_with fail
          go_roundw
          case rel => exact ⟨i + 1, s + p, by omega, by go_num, rfl, by omega, by omega, HS3.out.symm, HBW4, HIN4⟩
          case measure => simp [intOf]; omega
        | false =>
          have HS3 : Hid (fitAll d (xs.take (i + 1)) = s) := HS2.out.trans (by rw [HFV.out, if_neg hk4]; simp)
          clear hk4 HS2 HFV
          go_wp2_with fail
          go_roundw
          case rel => exact ⟨i + 1, s, by omega, by go_num, rfl, by omega, by omega, HS3.out.symm, HBW4, HIN4⟩
          case measure => simp [intOf]; omega
    · have hie : i = xs.length := by omega
      subst hie
      rw [List.take_length] at hs
      rw [← hs.out] at HV
      have hk := hin.out _ _ HBB.out
      have b1 := cell_h hk 1 (v := .int .i64 ship) rfl
      clear hk hs
      have HSH : ∃ nv : Int, nv = (if d.kind = 4 then ship else s) := ⟨_, rfl⟩
      obtain ⟨nv, hnv⟩ := HSH
      rw [← hnv] at HV
      have HNV := Lib.hid hnv
      clear hnv
      by_cases h1 : at_ < d.first
      · have HV2 := Lib.hid (HV.out.trans (if_pos h1))
        by_cases hk4 : d.kind = 4
        · have k4 : (d.kind == 4) = true := by simpa using hk4
          clear hk4
          go_wp2_with fail
          go_ret
          exact ⟨ret_int HV2.out.symm, hbw.out⟩
        · have k4 : (d.kind == 4) = false := by simpa using hk4
          clear hk4
          go_wp2_with fail
          go_ret
          exact ⟨ret_int HV2.out.symm, hbw.out⟩
      · have HV2 := Lib.hid (HV.out.trans (if_neg h1))
        by_cases h2 : d.last ≤ at_
        · have HV3 := Lib.hid (HV2.out.trans (if_pos h2))
          by_cases hk4 : d.kind = 4
          · have k4 : (d.kind == 4) = true := by simpa using hk4
            clear hk4
            go_wp2_with fail
            go_ret
            exact ⟨ret_int HV3.out.symm, hbw.out⟩
          · have k4 : (d.kind == 4) = false := by simpa using hk4
            clear hk4
            go_wp2_with fail
            go_ret
            exact ⟨ret_int HV3.out.symm, hbw.out⟩
        · have HV3 := Lib.hid (HV2.out.trans (if_neg h2))
          by_cases h3 : nv = 0
          · have HV4 := Lib.hid (HV3.out.trans (if_pos h3))
            by_cases hk4 : d.kind = 4
            · have k4 : (d.kind == 4) = true := by simpa using hk4
              have k5 : (ship == 0) = true := by have := HNV.out; rw [if_pos hk4] at this; simp; omega
              clear hk4
              go_wp2_with fail
              go_ret
              exact ⟨ret_int HV4.out.symm, hbw.out⟩
            · have k4 : (d.kind == 4) = false := by simpa using hk4
              have k5 : (s == 0) = true := by have := HNV.out; rw [if_neg hk4] at this; simp; omega
              clear hk4
              go_wp2_with fail
              go_ret
              exact ⟨ret_int HV4.out.symm, hbw.out⟩
          · have HV4 := Lib.hid (HV3.out.trans (if_neg h3))
            by_cases h4 : s < d.least
            · have HV5 := Lib.hid (HV4.out.trans (if_pos h4))
              by_cases hk4 : d.kind = 4
              · have k4 : (d.kind == 4) = true := by simpa using hk4
                have k5 : (ship == 0) = false := by have := HNV.out; rw [if_pos hk4] at this; simp; omega
                clear hk4
                go_wp2_with fail
                go_ret
                exact ⟨ret_int HV5.out.symm, hbw.out⟩
              · have k4 : (d.kind == 4) = false := by simpa using hk4
                have k5 : (s == 0) = false := by have := HNV.out; rw [if_neg hk4] at this; simp; omega
                clear hk4
                go_wp2_with fail
                go_ret
                exact ⟨ret_int HV5.out.symm, hbw.out⟩
            · have HV5 := Lib.hid (HV4.out.trans (if_neg h4))
              by_cases hk4 : d.kind = 4
              · have k4 : (d.kind == 4) = true := by simpa using hk4
                have k5 : (ship == 0) = false := by have := HNV.out; rw [if_pos hk4] at this; simp; omega
                clear hk4
                go_wp2_with fail
                go_ret
                exact ⟨ret_int HV5.out.symm, hbw.out⟩
              · have k4 : (d.kind == 4) = false := by simpa using hk4
                have k5 : (s == 0) = false := by have := HNV.out; rw [if_neg hk4] at this; simp; omega
                clear hk4
                go_wp2_with fail
                go_ret
                exact ⟨ret_int HV5.out.symm, hbw.out⟩
end Go.Proofs.YtihcmifikbkbcaaGreat

/- Offers: which go together. -/
namespace Go.Proofs.YtihcmifikbkbcaaGreat
set_option linter.unusedVariables false
open Go.RowKit
def grps (ds : List OfD) : List ByteArray := ds.map fun d => d.group
/-- The i-th of offers goes with those ahead of it. -/
def togB (ds : List OfD) (i : Nat) (d : OfD) : Bool := !((d.alone && decide (1 < ds.length)) || (!d.group.toList.isEmpty && hasK (grps (ds.take i)) d.group))
def togAt (ds : List OfD) (i : Nat) : Bool := match ds[i]? with | some d => togB ds i d | none => true
def togetherB (ds : List OfD) : Bool := (List.range ds.length).all (togAt ds)
theorem togAt_at {ds : List OfD} {i : Nat} (h : i < ds.length) : togAt ds i = togB ds i ds[i] := by unfold togAt; rw [List.getElem?_eq_getElem h]
/-- What is so at the head of the loop. -/
structure TI (ds : List OfD) (W : World) (i : Nat) (wr : World) : Prop where
  bel : Below W.heap.size W wr
  map : Mp Tryz.prog 9 wr W.heap.size i (setMp (grps (ds.take i)))
theorem TI.new (ds : List OfD) (W : World) : TI ds W 0 (W.alloc (.map #[] 0)) := ⟨new1 _, Mp.made Tryz.prog 9 W⟩
theorem TI.call {ds : List OfD} {W wr w' : World} {i : Nat} (h : TI ds W i wr) (hb : Below wr.heap.size wr w') : TI ds W i w' := ⟨h.bel.trans (hb.mono h.bel.size), h.map.below hb⟩
theorem TI.put {ds : List OfD} {W wr w' : World} {i : Nat} (h : TI ds W i wr) (hi : i < ds.length) (hM : Mp Tryz.prog 9 w' W.heap.size (i + 1) (mpSet (setMp (grps (ds.take i))) (codeLit ds[i].group) (.bool true))) (hg : wr.grownBy w' (some W.heap.size)) : TI ds W (i + 1) w' := by
  refine ⟨h.bel.grown hg h.bel.size (fun k hk => by injection hk with hk; omega), ?_⟩
  rw [setMp_snoc] at hM
  have : grps (ds.take (i + 1)) = grps (ds.take i) ++ [ds[i].group] := by unfold grps; rw [List.take_succ_eq_append_getElem hi, List.map_append]; rfl
  rw [this]
  exact hM
set_option maxHeartbeats 4000000 in
set_option maxRecDepth 100000 in
theorem together_any (H : Frz) (A : Option Addr) (cap : Nat) (ds : List OfD) (w : World) (hH : H.In w) (hR : Rw H A 12 fOf ds) (hsz : ∀ d ∈ ds, OfIn H d) (hl : ds.length ≤ 1000) :
    Calls Tryz.prog 28 #[.slice A ds.length cap] w fun e w' => e = .returned (.bool (togetherB ds)) ∧ Below w.heap.size w w' := by
  have HR := Lib.hid hR
  have HH := Lib.hid hH
  have HS := Lib.hid hsz
  have hmm := @run_makeMap Tryz.prog
  have HNEW := Lib.hid (TI.new ds w)
  have HV : Hid (togetherB ds = (List.range ds.length).all (togAt ds)) := rfl
  generalize togetherB ds = r at HV ⊢
  clear hR hH hsz
  go_enter Tryz.func28, Tryz.ntmps28
  go_wp2_with fail
  clear hmm
  go_loopw [9] (fun t wr => ∃ i : Nat, i ≤ ds.length ∧ t = .int .i64 i ∧ Hid ((List.range i).all (togAt ds) = true) ∧ Hid (TI ds w i wr)) (fun t _ => ds.length - (intOf t).toNat)
  case atStart => exact ⟨0, by omega, rfl, rfl, HNEW⟩
  case round =>
    obtain ⟨i, hi, rfl, hall, hinv⟩ := hrel
    clear HNEW
    by_cases hlt : i < ds.length
    · have hin := HH.out.below hinv.out.bel
      obtain ⟨b, off, hA, hbl, hc⟩ := HR.out.at_ hin hlt (by omega)
      subst hA
      have c0 : wr.cell? ⟨b, off + i * 12, none⟩ = some (.string ds[i].key) := hc 0 (by omega)
      have c1 : wr.cell? ⟨b, off + i * 12 + 1, none⟩ = some (.int .i64 ds[i].kind) := hc 1 (by omega)
      have c2 : wr.cell? ⟨b, off + i * 12 + 2, none⟩ = some (.int .i64 ds[i].a) := hc 2 (by omega)
      have c3 : wr.cell? ⟨b, off + i * 12 + 3, none⟩ = some (.int .i64 ds[i].b) := hc 3 (by omega)
      have c4 : wr.cell? ⟨b, off + i * 12 + 4, none⟩ = some (.slice ds[i].ta ds[i].tags.length ds[i].tc) := hc 4 (by omega)
      have c5 : wr.cell? ⟨b, off + i * 12 + 5, none⟩ = some (.int .i64 ds[i].least) := hc 5 (by omega)
      have c6 : wr.cell? ⟨b, off + i * 12 + 6, none⟩ = some (.int .i64 ds[i].most) := hc 6 (by omega)
      have c7 : wr.cell? ⟨b, off + i * 12 + 7, none⟩ = some (.string ds[i].group) := hc 7 (by omega)
      have c8 : wr.cell? ⟨b, off + i * 12 + 8, none⟩ = some (.bool ds[i].alone) := hc 8 (by omega)
      have c9 : wr.cell? ⟨b, off + i * 12 + 9, none⟩ = some (.int .i64 ds[i].order) := hc 9 (by omega)
      have c10 : wr.cell? ⟨b, off + i * 12 + 10, none⟩ = some (.int .i64 ds[i].first) := hc 10 (by omega)
      have c11 : wr.cell? ⟨b, off + i * 12 + 11, none⟩ = some (.int .i64 ds[i].last) := hc 11 (by omega)
      have hgs := (HS.out _ (List.getElem_mem hlt)).group
      have HAT : Hid (togAt ds i = !((ds[i].alone && decide (1 < ds.length)) || (!ds[i].group.toList.isEmpty && hasK (grps (ds.take i)) ds[i].group))) := togAt_at hlt
      have HBAD : Hid (togAt ds i = false → r = false) := fun h => HV.out.trans (allR_not hlt h)
      have HNX : Hid (togAt ds i = true → (List.range (i + 1)).all (togAt ds) = true) := fun h => allR_succ hall.out h
      have HPUT : Hid (∀ w1 w2, TI ds w i w1 → Mp Tryz.prog 9 w2 w.heap.size (i + 1) (mpSet (setMp (grps (ds.take i))) (codeLit ds[i].group) (.bool true)) → w1.grownBy w2 (some w.heap.size) → TI ds w (i + 1) w2) := fun w1 w2 h1 h2 h3 => h1.put hlt h2 h3
      clear hc hall hin
      generalize ds[i] = d at *
      have HGET := Lib.hid (setMp_get (grps (ds.take i)) d.group)
      have HMP : Hid (∀ W', TI ds w i W' → Mp Tryz.prog 9 W' w.heap.size i (setMp (grps (ds.take i)))) := fun W' h => h.map
      generalize grps (ds.take i) = gs at *
      have HI2 := Lib.hid (hinv.out.call (new1 (w := wr) (.cells #[.string d.key, .int .i64 d.kind, .int .i64 d.a, .int .i64 d.b, .slice d.ta d.tags.length d.tc, .int .i64 d.least, .int .i64 d.most, .string d.group, .bool d.alone, .int .i64 d.order, .int .i64 d.first, .int .i64 d.last] 50)))
      have z0 : (wr.alloc (.cells #[.string d.key, .int .i64 d.kind, .int .i64 d.a, .int .i64 d.b, .slice d.ta d.tags.length d.tc, .int .i64 d.least, .int .i64 d.most, .string d.group, .bool d.alone, .int .i64 d.order, .int .i64 d.first, .int .i64 d.last] 50)).cell? ⟨wr.heap.size, 0, none⟩ = some (.string d.key) := newc 0 rfl
      have z1 : (wr.alloc (.cells #[.string d.key, .int .i64 d.kind, .int .i64 d.a, .int .i64 d.b, .slice d.ta d.tags.length d.tc, .int .i64 d.least, .int .i64 d.most, .string d.group, .bool d.alone, .int .i64 d.order, .int .i64 d.first, .int .i64 d.last] 50)).cell? ⟨wr.heap.size, 1, none⟩ = some (.int .i64 d.kind) := newc 1 rfl
      have z2 : (wr.alloc (.cells #[.string d.key, .int .i64 d.kind, .int .i64 d.a, .int .i64 d.b, .slice d.ta d.tags.length d.tc, .int .i64 d.least, .int .i64 d.most, .string d.group, .bool d.alone, .int .i64 d.order, .int .i64 d.first, .int .i64 d.last] 50)).cell? ⟨wr.heap.size, 2, none⟩ = some (.int .i64 d.a) := newc 2 rfl
      have z3 : (wr.alloc (.cells #[.string d.key, .int .i64 d.kind, .int .i64 d.a, .int .i64 d.b, .slice d.ta d.tags.length d.tc, .int .i64 d.least, .int .i64 d.most, .string d.group, .bool d.alone, .int .i64 d.order, .int .i64 d.first, .int .i64 d.last] 50)).cell? ⟨wr.heap.size, 3, none⟩ = some (.int .i64 d.b) := newc 3 rfl
      have z4 : (wr.alloc (.cells #[.string d.key, .int .i64 d.kind, .int .i64 d.a, .int .i64 d.b, .slice d.ta d.tags.length d.tc, .int .i64 d.least, .int .i64 d.most, .string d.group, .bool d.alone, .int .i64 d.order, .int .i64 d.first, .int .i64 d.last] 50)).cell? ⟨wr.heap.size, 4, none⟩ = some (.slice d.ta d.tags.length d.tc) := newc 4 rfl
      have z5 : (wr.alloc (.cells #[.string d.key, .int .i64 d.kind, .int .i64 d.a, .int .i64 d.b, .slice d.ta d.tags.length d.tc, .int .i64 d.least, .int .i64 d.most, .string d.group, .bool d.alone, .int .i64 d.order, .int .i64 d.first, .int .i64 d.last] 50)).cell? ⟨wr.heap.size, 5, none⟩ = some (.int .i64 d.least) := newc 5 rfl
      have z6 : (wr.alloc (.cells #[.string d.key, .int .i64 d.kind, .int .i64 d.a, .int .i64 d.b, .slice d.ta d.tags.length d.tc, .int .i64 d.least, .int .i64 d.most, .string d.group, .bool d.alone, .int .i64 d.order, .int .i64 d.first, .int .i64 d.last] 50)).cell? ⟨wr.heap.size, 6, none⟩ = some (.int .i64 d.most) := newc 6 rfl
      have z7 : (wr.alloc (.cells #[.string d.key, .int .i64 d.kind, .int .i64 d.a, .int .i64 d.b, .slice d.ta d.tags.length d.tc, .int .i64 d.least, .int .i64 d.most, .string d.group, .bool d.alone, .int .i64 d.order, .int .i64 d.first, .int .i64 d.last] 50)).cell? ⟨wr.heap.size, 7, none⟩ = some (.string d.group) := newc 7 rfl
      have z8 : (wr.alloc (.cells #[.string d.key, .int .i64 d.kind, .int .i64 d.a, .int .i64 d.b, .slice d.ta d.tags.length d.tc, .int .i64 d.least, .int .i64 d.most, .string d.group, .bool d.alone, .int .i64 d.order, .int .i64 d.first, .int .i64 d.last] 50)).cell? ⟨wr.heap.size, 8, none⟩ = some (.bool d.alone) := newc 8 rfl
      have z9 : (wr.alloc (.cells #[.string d.key, .int .i64 d.kind, .int .i64 d.a, .int .i64 d.b, .slice d.ta d.tags.length d.tc, .int .i64 d.least, .int .i64 d.most, .string d.group, .bool d.alone, .int .i64 d.order, .int .i64 d.first, .int .i64 d.last] 50)).cell? ⟨wr.heap.size, 9, none⟩ = some (.int .i64 d.order) := newc 9 rfl
      have z10 : (wr.alloc (.cells #[.string d.key, .int .i64 d.kind, .int .i64 d.a, .int .i64 d.b, .slice d.ta d.tags.length d.tc, .int .i64 d.least, .int .i64 d.most, .string d.group, .bool d.alone, .int .i64 d.order, .int .i64 d.first, .int .i64 d.last] 50)).cell? ⟨wr.heap.size, 10, none⟩ = some (.int .i64 d.first) := newc 10 rfl
      have z11 : (wr.alloc (.cells #[.string d.key, .int .i64 d.kind, .int .i64 d.a, .int .i64 d.b, .slice d.ta d.tags.length d.tc, .int .i64 d.least, .int .i64 d.most, .string d.group, .bool d.alone, .int .i64 d.order, .int .i64 d.first, .int .i64 d.last] 50)).cell? ⟨wr.heap.size, 11, none⟩ = some (.int .i64 d.last) := newc 11 rfl
      have HBN := Lib.hid (new1 (w := wr) (.cells #[.string d.key, .int .i64 d.kind, .int .i64 d.a, .int .i64 d.b, .slice d.ta d.tags.length d.tc, .int .i64 d.least, .int .i64 d.most, .string d.group, .bool d.alone, .int .i64 d.order, .int .i64 d.first, .int .i64 d.last] 50))
      go_upto_region 5 with (fail)
      clear c0 c1 c2 c3 c4 c5 c6 c7 c8 c9 c10 c11 hinv HBN
      generalize wr.alloc (.cells #[.string d.key, .int .i64 d.kind, .int .i64 d.a, .int .i64 d.b, .slice d.ta d.tags.length d.tc, .int .i64 d.least, .int .i64 d.most, .string d.group, .bool d.alone, .int .i64 d.order, .int .i64 d.first, .int .i64 d.last] 50) = W1 at *
      have HK1 := Lib.hid (strKey (s := d.group) (by omega))
      have HLT : Hid (i < maxLen) := by show _ < _; unfold maxLen; omega
      have hlook : ∀ q, hasK gs d.group = q → (Instr.lookup 115 (.map (some w.heap.size)) (.string d.group) false).run Tryz.prog W1 = .ok (.bool q) W1 := by
        rintro q rfl
        have := (HMP.out _ HI2.out).look strKeyed Tryz.underlying115 (zeroBool W1) HK1.out false
        simp only [Bool.false_eq_true, if_false] at this
        rw [HGET.out] at this
        exact this
      have HLOOK := Lib.hid hlook
      clear hlook HGET
      cases hge : d.group.toList.isEmpty with
      | true =>
        have HA1 : Hid (togAt ds i = !(d.alone && decide (1 < ds.length))) := by show _ = _; rw [HAT.out, hge]; simp
        have hge2 : (!d.group.toList.isEmpty) = false := by rw [hge]; rfl
        clear HAT HLOOK
        cases hal : d.alone with
        | true =>
          rw [hal] at HA1 z8
          by_cases h1 : 1 < ds.length
          · have k1 : decide ((1 : Int) < ds.length) = true := by simp; omega
            have hv := Lib.hid (HBAD.out (HA1.out.trans (by simp [h1])))
            clear HA1
            go_wp2_with fail
            go_ret
            exact ⟨ret_bool' hv.out.symm, HI2.out.bel⟩
          · have k1 : decide ((1 : Int) < ds.length) = false := by simp; omega
            have hv := Lib.hid (HNX.out (HA1.out.trans (by simp [h1])))
            clear HA1
            go_wp2_with (at_mapUpdate; refine wpList_mp_set _ rfl _ _ _ 115 rfl 9 4 strKeyed Tryz.underlying115 w.heap.size i (setMp gs) rfl (HMP.out _ HI2.out) HLT.out _ _ _ rfl rfl HK1.out ?_; intro w5 hM5 hg5 hz5; have HI5 := Lib.hid (HPUT.out _ _ HI2.out hM5 hg5); clear hM5 hg5 hz5)
            go_roundw
            case rel => exact ⟨i + 1, by omega, by go_num, hv, HI5⟩
            case measure => simp [intOf]; omega
        | false =>
          rw [hal] at HA1 z8
          have hv := Lib.hid (HNX.out (HA1.out.trans (by simp)))
          clear HA1
          go_wp2_with (at_mapUpdate; refine wpList_mp_set _ rfl _ _ _ 115 rfl 9 4 strKeyed Tryz.underlying115 w.heap.size i (setMp gs) rfl (HMP.out _ HI2.out) HLT.out _ _ _ rfl rfl HK1.out ?_; intro w5 hM5 hg5 hz5; have HI5 := Lib.hid (HPUT.out _ _ HI2.out hM5 hg5); clear hM5 hg5 hz5)
          go_roundw
          case rel => exact ⟨i + 1, by omega, by go_num, hv, HI5⟩
          case measure => simp [intOf]; omega
      | false =>
        have hge2 : (!d.group.toList.isEmpty) = true := by rw [hge]; rfl
        have hlk := HLOOK.out _ rfl
        rw [hge] at HAT
        clear HLOOK
        generalize hasK gs d.group = hq at *
        cases hal : d.alone with
        | true =>
          rw [hal] at HAT z8
          by_cases h1 : 1 < ds.length
          · have k1 : decide ((1 : Int) < ds.length) = true := by simp; omega
            have hv := Lib.hid (HBAD.out (HAT.out.trans (by simp [h1])))
            clear HAT
            go_wp2_with fail
            go_ret
            exact ⟨ret_bool' hv.out.symm, HI2.out.bel⟩
          · have k1 : decide ((1 : Int) < ds.length) = false := by simp; omega
            cases hq with
            | true =>
              have hv := Lib.hid (HBAD.out (HAT.out.trans (by simp)))
              clear HAT
              go_wp2_with fail
              go_ret
              exact ⟨ret_bool' hv.out.symm, HI2.out.bel⟩
            | false =>
              have hv := Lib.hid (HNX.out (HAT.out.trans (by simp [h1])))
              clear HAT
              go_wp2_with (at_mapUpdate; refine wpList_mp_set _ rfl _ _ _ 115 rfl 9 4 strKeyed Tryz.underlying115 w.heap.size i (setMp gs) rfl (HMP.out _ HI2.out) HLT.out _ _ _ rfl rfl HK1.out ?_; intro w5 hM5 hg5 hz5; have HI5 := Lib.hid (HPUT.out _ _ HI2.out hM5 hg5); clear hM5 hg5 hz5)
              go_roundw
              case rel => exact ⟨i + 1, by omega, by go_num, hv, HI5⟩
              case measure => simp [intOf]; omega
        | false =>
          rw [hal] at HAT z8
          cases hq with
          | true =>
            have hv := Lib.hid (HBAD.out (HAT.out.trans (by simp)))
            clear HAT
            go_wp2_with fail
            go_ret
            exact ⟨ret_bool' hv.out.symm, HI2.out.bel⟩
          | false =>
            have hv := Lib.hid (HNX.out (HAT.out.trans (by simp)))
            clear HAT
            go_wp2_with (at_mapUpdate; refine wpList_mp_set _ rfl _ _ _ 115 rfl 9 4 strKeyed Tryz.underlying115 w.heap.size i (setMp gs) rfl (HMP.out _ HI2.out) HLT.out _ _ _ rfl rfl HK1.out ?_; intro w5 hM5 hg5 hz5; have HI5 := Lib.hid (HPUT.out _ _ HI2.out hM5 hg5); clear hM5 hg5 hz5)
            go_roundw
            case rel => exact ⟨i + 1, by omega, by go_num, hv, HI5⟩
            case measure => simp [intOf]; omega
    · have hie : i = ds.length := by omega
      subst hie
      have hv := Lib.hid (HV.out.trans hall.out)
      go_wp2_with fail
      go_ret
      exact ⟨ret_bool' hv.out.symm, hinv.out.bel⟩
end Go.Proofs.YtihcmifikbkbcaaGreat
