/- Texts of this claim, put together: Runes, Alike, Alike2. -/
import Derived.Test.YtbidhpgjmcedaaaGreatDoorGAY
import Derived.Test.YtbidhpgjmcedaaaGreatDoorGAI
import Derived.Test.YtbidhpgjmcedaaaGreatDoorGAF
import Derived.Test.YtbidhpgjmcedaaaGreatDoorGAE
/- The code points of a text. -/
namespace Go.Proofs.YtbidhpgjmcedaaaGreatDoor
set_option linter.unusedVariables false
open Go.RowKit
theorem infoRune : (Tryz.prog.info? 21).map (fun i => (i.zero, i.size, i.bytes)) = some (some (.int .i32 0), 1, 4) := by kernel_rfl
theorem empty_size {t : ByteArray} : t.toList.isEmpty = true ↔ t.size = 0 := by
  rw [size0V, List.isEmpty_iff]
theorem rune_head {c : ByteArray} (h : 0 < c.size) : c.data.toList.headD 0 = c[0] := by
  cases c with
  | mk d =>
    cases d with
    | mk l =>
      cases l with
      | nil => exact absurd h (Nat.lt_irrefl 0)
      | cons x l => rfl
theorem byte_wrap (b : UInt8) : wrap32 ((b.toNat : Nat) : Int) = ((b.toNat : Nat) : Int) ∧ wrap32 (-1 - ((b.toNat : Nat) : Int)) = -1 - ((b.toNat : Nat) : Int) := by
  have := b.toNat_lt
  exact ⟨IntWalk.wrap32_in _ (by omega), IntWalk.wrap32_in _ (by omega)⟩
abbrev RuM := IG (D := Int) 21 1 fR
def strSize (v : Value) : Nat := match v with | .string t => t.size | _ => 0
set_option maxHeartbeats 4000000 in
set_option maxRecDepth 100000 in
theorem points_any (H : Frz) (hU : UtfIn H) (s : ByteArray) (w : World) (hH : H.In w) (hs : s.size ≤ 1000000) :
    Calls Tryz.prog 77 #[.string s] w fun e w' => ∃ v, e = .returned v ∧ RuM H w.heap.size v (ptS s) w w' := by
  obtain ⟨i0, hi0, hz0, hz1, hz2⟩ := info_parts infoRune
  have C0 : Hid (RuM H w.heap.size (.slice none 0 0) [] w w) := ⟨hH, Orow.nil _ _ _ _ _, (fun g hg => by cases hg), Below.refl _ _, Nat.le_refl _, Nat.le_refl _⟩
  have HDE := Lib.hid (fun t W (hW : H.In W) => Tryz.utf8_DecodeRuneInString t W (hU W hW))
  clear hH hU
  go_enter Tryz.func77, Tryz.ntmps77
  go_wp2_with fail
  go_loopw [0, 3] (fun x v wr => ∃ (t : ByteArray) (ds : List Int), x = .string t ∧ Hid (RuM H w.heap.size v ds w wr) ∧ Hid (ptS s = ds ++ ptS t) ∧ t.size ≤ s.size ∧ ds.length + t.size ≤ s.size) (fun x _ _ => strSize x)
  case atStart => exact ⟨s, [], rfl, C0, rfl, Nat.le_refl _, by simp⟩
  case round =>
    obtain ⟨t, ds, rfl, C, hpt, hts, hdl⟩ := hrel
    clear C0
    obtain ⟨A, cap, hv, hle⟩ := C.out.row.slice
    subst hv
    cases hem : t.toList.isEmpty with
    | true =>
      have h0 := empty_size.1 hem
      have HF : Hid (RuM H w.heap.size (.slice A ds.length cap) (ptS s) w wr) := by
        have e := hpt.out
        rw [ptS_nil h0, List.append_nil] at e
        show RuM _ _ _ _ _ _
        rw [e]
        exact C.out
      go_wp2_with fail
      exact bodyPost_ret (by kernel_rfl) rfl ⟨_, rfl, HF.out⟩
    | false =>
      have h0 : 0 < t.size := by
        apply Classical.byContradiction
        intro c
        have := empty_size.2 (show t.size = 0 by omega)
        rw [hem] at this
        cases this
      have hdb := dec_bound h0
      have HST := Lib.hid (ptS_step h0)
      have HRZ := Lib.hid (restOf_size h0)
      have hrb := runeOf_bound h0
      have HRU : Hid (runeOf t = if (Lib.decodeGo t).1 = 65533 ∧ (Lib.decodeGo t).2 = 1 then -1 - ((t.data.toList.headD 0).toNat : Int) else ((Lib.decodeGo t).1 : Int)) := rfl
      have HRE : Hid (restOf t = t.extract (Lib.decodeGo t).2 t.size) := rfl
      have HDT := Lib.hid (HDE.out t wr C.out.inn)
      generalize (Lib.decodeGo t).1 = R at *
      generalize (Lib.decodeGo t).2 = K at *
      generalize runeOf t = ru at *
      generalize restOf t = rt at *
      go_wp2_with fail
      refine HDT.out.mono ?_
      rintro e W2 ⟨rfl, hb2⟩
      have C2 := Lib.hid (C.out.below hb2)
      clear HDT C hb2
      have hR : (R : Int) ≤ 1114111 := by omega
      obtain ⟨q, hq⟩ : ∃ q, decide (R = 65533 ∧ K = 1) = q := ⟨_, rfl⟩
      have HQ := Lib.hid hq
      clear hq
      go_upto_region 4 with (fail)
      go_cut [18] (fun q18 wx => q18 = .bool q ∧ wx = W2)
      case first =>
        by_cases g1 : R = 65533
        · have k1 : ((R : Int) == 65533) = true := by simp; omega
          by_cases g2 : K = 1
          · have k2 : ((K : Int) == 1) = true := by simp; omega
            have hd : Hid (q = true) := HQ.out.symm.trans (decide_eq_true ⟨g1, g2⟩)
            clear g1 g2
            go_wp2_with fail
            all_goals (go_meet; exact ⟨by rw [hd.out], rfl⟩)
          · have k2 : ((K : Int) == 1) = false := by simp; omega
            have hd : Hid (q = false) := HQ.out.symm.trans (decide_eq_false (fun c => g2 c.2))
            clear g1 g2
            go_wp2_with fail
            all_goals (go_meet; exact ⟨by rw [hd.out], rfl⟩)
        · have k1 : ((R : Int) == 65533) = false := by simp; omega
          have hd : Hid (q = false) := HQ.out.symm.trans (decide_eq_false (fun c => g1 c.1))
          clear g1
          go_wp2_with fail
          all_goals (go_meet; exact ⟨by rw [hd.out], rfl⟩)
      case rest =>
        obtain ⟨rfl, rfl⟩ := hcut
        go_upto_if 18 with (fail)
        go_cut [4] (fun q4 wx => ∃ z : Int, q4 = .int .i32 z ∧ Hid (z = ru) ∧ Hid (RuM H w.heap.size (.slice A ds.length cap) ds w wx))
        case first =>
          cases q with
          | true =>
            have hrt : ru = (-1 : Int) - (((t[0]'h0).toNat : Nat) : Int) := by
              rw [HRU.out, if_pos (of_decide_eq_true HQ.out), rune_head h0]
            obtain ⟨w1, w2⟩ := byte_wrap (t[0]'h0)
            have HW2 := Lib.hid w2
            clear w2
            have HR2 := Lib.hid hrt
            clear hrt HQ
            go_wp2_with fail
            all_goals (go_meet; first | exact ⟨_, rfl, HR2.out.symm, C2.out⟩ | exact ⟨_, rfl, HW2.out.trans HR2.out.symm, C2.out⟩)
          | false =>
            have hrt : ru = R := by rw [HRU.out, if_neg (of_decide_eq_false HQ.out)]
            have HR2 := Lib.hid hrt
            clear hrt HQ
            go_wp2_with fail
            all_goals (go_meet; exact ⟨_, rfl, HR2.out.symm, C2.out⟩)
        case rest =>
          obtain ⟨z, rfl, hz, C3⟩ := hcut
          clear C2
          obtain rfl := hz.out
          generalize hv2 : Value.slice A ds.length cap = v2 at C3
          have HOr := Lib.hid C3.out.row
          have HSA := Lib.hid (fun v' W' o g1 at1 => C3.out.app (v' := v') (W' := W') (ds' := ds ++ [z]) o g1 at1)
          have hB9 := C3.out.le
          go_wp2_with (at_builtin; refine wpList_app_at rfl _ _ 129 rfl w.heap.size 21 i0 (.int .i32 0) 1 4 Tryz.underlying129 hi0 hz0 hz1 hz2 rfl (by decide) fR _ ds rfl HOr.out z #[.int .i32 z] 21 rfl rfl (by simp [Value.oneCell']) (by omega) (by omega) hB9 ?_; intro v1 w2 o1 g1 b1 at1; have CA := Lib.hid (HSA.out v1 w2 o1 g1 at1); clear o1 g1 b1 at1 HSA HOr)
          go_roundw
          case rel => exact ⟨t.extract K t.size, ds ++ [z], rfl, CA, (by
            show _ = _
            rw [← HRE.out, List.append_assoc, List.singleton_append, ← HST.out]; exact hpt.out), by rw [← HRE.out]; have := HRZ.out; omega, by rw [← HRE.out]; have := HRZ.out; simp only [List.length_append, List.length_singleton]; omega⟩
          case measure =>
            show (t.extract K t.size).size < t.size
            rw [← HRE.out]
            exact HRZ.out.1
end Go.Proofs.YtbidhpgjmcedaaaGreatDoor

/- Two texts have the same code points; two values are alike. -/
namespace Go.Proofs.YtbidhpgjmcedaaaGreatDoor
set_option linter.unusedVariables false
open Go.RowKit
set_option maxHeartbeats 2000000 in
set_option maxRecDepth 100000 in
theorem equalR_any (H : Frz) (A B : Option Addr) (ca cb : Nat) (xs ys : List Int) (w : World) (hH : H.In w) (hA : Rw H A 1 fR xs) (hB : Rw H B 1 fR ys) (la : xs.length ≤ 1000000) (lb : ys.length ≤ 1000000) :
    Calls Tryz.prog 211 #[.slice A xs.length ca, .slice B ys.length cb] w fun e w' => e = .returned (.bool (xs == ys)) ∧ Below w.heap.size w w' := by
  have HA := Lib.hid hA
  have HB := Lib.hid hB
  have HH := Lib.hid hH
  clear hA hB hH
  by_cases hlen : xs.length = ys.length
  rotate_left
  · have k0 : ((xs.length : Int) != (ys.length : Int)) = true := by simp; omega
    have HV : Hid ((xs == ys) = false) := by
      show _ = _
      apply beq_false_of_ne
      intro e
      exact hlen (by rw [e])
    clear hlen
    go_enter Tryz.func211, Tryz.ntmps211
    go_wp2_with fail
    go_ret
    exact ⟨ret_bool' HV.out.symm, Below.refl _ _⟩
  · have k0 : ((xs.length : Int) != (ys.length : Int)) = false := by simp; omega
    have HLEN := Lib.hid hlen
    go_enter Tryz.func211, Tryz.ntmps211
    go_wp2_with fail
    clear k0
    go_loopw [13] (fun t wr => ∃ i : Nat, i ≤ xs.length ∧ t = .int .i64 i ∧ Hid (xs.take i = ys.take i) ∧ Hid (Below w.heap.size w wr)) (fun t _ => xs.length - (intOf t).toNat)
    case atStart => exact ⟨0, by omega, rfl, rfl, Below.refl _ _⟩
    case round =>
      obtain ⟨i, hi, rfl, heq, hb⟩ := hrel
      by_cases hlt : i < xs.length
      · have hlt2 : i < ys.length := by omega
        obtain ⟨b, off, rfl, hbl, hc⟩ := HA.out.at_ (HH.out.below hb.out) hlt (by omega)
        obtain ⟨b2, off2, rfl, hbl2, hc2⟩ := HB.out.at_ (HH.out.below hb.out) hlt2 (by omega)
        have c0 : wr.cell? ⟨b, off + i, none⟩ = some (.int .i32 xs[i]) := by simpa [fR] using hc 0 (by omega)
        have d0 : wr.cell? ⟨b2, off2 + i, none⟩ = some (.int .i32 ys[i]) := by simpa [fR] using hc2 0 (by omega)
        have HNX : Hid (xs[i] = ys[i] → xs.take (i + 1) = ys.take (i + 1)) := fun e => by
          rw [List.take_succ_eq_append_getElem hlt, List.take_succ_eq_append_getElem hlt2, heq.out, e]
        have HNE : Hid (xs[i] ≠ ys[i] → (xs == ys) = false) := fun e => by
          apply beq_false_of_ne
          intro e2
          subst e2
          exact e rfl
        clear hc hc2
        generalize xs[i] = x at *
        generalize ys[i] = y at *
        by_cases hxy : x = y
        · have k1 : (x != y) = false := by simpa using hxy
          have hnx := Lib.hid (HNX.out hxy)
          clear hxy HNX HNE
          go_wp2_with fail
          go_quiet (fail)
          have HB1 := Lib.hid (fun n => below_drewN hb.out n)
          go_wp2_with fail
          go_roundw
          case rel => exact ⟨i + 1, by omega, by go_num, hnx, Lib.hid (HB1.out _)⟩
          case measure => simp [intOf]; omega
        · have k1 : (x != y) = true := by simpa using hxy
          have hv := Lib.hid (HNE.out hxy)
          clear hxy HNX HNE
          go_wp2_with fail
          go_quiet (fail)
          have HB1 := Lib.hid (fun n => below_drewN hb.out n)
          go_wp2_with fail
          go_ret
          exact ⟨ret_bool' hv.out.symm, HB1.out _⟩
      · have hie : i = xs.length := by omega
        subst hie
        have hv : Hid ((xs == ys) = true) := by
          have e := heq.out
          rw [HLEN.out, List.take_length, ← HLEN.out, List.take_length] at e
          show _ = _
          rw [e]; simp
        go_wp2_with fail
        go_ret
        exact ⟨ret_bool' hv.out.symm, hb.out⟩
end Go.Proofs.YtbidhpgjmcedaaaGreatDoor

/- Two values are alike. -/
namespace Go.Proofs.YtbidhpgjmcedaaaGreatDoor
set_option linter.unusedVariables false
open Go.RowKit
theorem slotA_of {a : Act} {s : Nat} {v : Value} (h : a.tmps.getD s undef = v) : a.tmps[s]?.getD undef = v := by rw [← Array.getD_eq_getD_getElem?]; exact h
/-- A row of code points that lies somewhere. -/
def RuF (v : Value) (ls : List Int) (W : World) : Prop := ∃ A cap H', v = .slice A ls.length cap ∧ ls.length ≤ cap ∧ H'.In W ∧ Rw H' A 1 fR ls
theorem RuF.below {v : Value} {ls : List Int} {W W' : World} (h : RuF v ls W) (hb : Below W.heap.size W W') : RuF v ls W' := by
  obtain ⟨A, cap, H', h1, h2, h3, h4⟩ := h
  exact ⟨A, cap, H', h1, h2, h3.below hb, h4⟩
theorem RuF.of {H : Frz} {B : Nat} {v : Value} {ls : List Int} {w W : World} (h : RuM H B v ls w W) : RuF v ls W := by
  obtain ⟨A, cap, H', h1, h2, h3, -, h4, -⟩ := Orow.freezeN h.row Frz.empty
  exact ⟨A, cap, H', h1, h2, h3 (Frz.In.empty _), h4⟩
def Frz.both (H1 H2 : Frz) : Frz := fun b => match H1 b with | some o => some o | none => H2 b
theorem Frz.both_in {H1 H2 : Frz} {w : World} (h1 : H1.In w) (h2 : H2.In w) : (H1.both H2).In w := fun b o e => by
  unfold Frz.both at e
  cases hb : H1 b with
  | some o' => rw [hb] at e; injection e with e; subst e; exact h1 b _ hb
  | none => rw [hb] at e; exact h2 b o e
theorem Frz.le_left (H1 H2 : Frz) : H1.Le (H1.both H2) := fun b o e => by unfold Frz.both; rw [e]
theorem Frz.le_right {H1 H2 : Frz} {w : World} (h1 : H1.In w) (h2 : H2.In w) : H2.Le (H1.both H2) := fun b o e => by
  unfold Frz.both
  cases hb : H1 b with
  | some o' => exact (h1 b _ hb).symm.trans (h2 b o e)
  | none => exact e
def φA (b1 b2 : Nat) (s t : ByteArray) (i : Nat) (x : Value) (W : World) : Prop :=
  match i with
  | 0 => x = .pointer (some ⟨b1, 1, none⟩)
  | 1 => x = .string s
  | 2 => RuF x (ptS s) W
  | 3 => x = .pointer (some ⟨b2, 1, none⟩)
  | 4 => x = .string t
  | _ => RuF x (ptS t) W
theorem φA_mono {b1 b2 : Nat} {s t : ByteArray} (i : Nat) (x : Value) (W W' : World) (_ : i < 6) (he : Below W.heap.size W W') (h : φA b1 b2 s t i x W) : φA b1 b2 s t i x W' := by
  match i with
  | 0 => exact h
  | 1 => exact h
  | 2 => exact RuF.below h he
  | 3 => exact h
  | 4 => exact h
  | n + 5 => exact RuF.below h he
set_option maxHeartbeats 4000000 in
set_option maxRecDepth 100000 in
theorem alike_any (H : Frz) (hU : UtfIn H) (m : MsD) (a b : VD) (w : World) (hH : H.In w) (hf : 0 ≤ m.far ∧ m.far ≤ 20) (ha : a.text.size ≤ 1000000) (hb : b.text.size ≤ 1000000) :
    Calls Tryz.prog 144 #[.agg #[.string m.name, .int .i64 m.how, .int .i64 m.far, .int .i64 m.pts], .agg #[.int .i64 a.kind, .string a.text, .int .i64 a.num], .agg #[.int .i64 b.kind, .string b.text, .int .i64 b.num]] w fun e w' => e = .returned (.bool (alikeV ptS m a b)) ∧ Below w.heap.size w w' := by
  have HPT := Lib.hid (fun s W (hW : H.In W) h => points_any H hU s W hW h)
  have h1 : (((w.alloc (.cells #[.string m.name, .int .i64 m.how, .int .i64 m.far, .int .i64 m.pts] 119)).alloc (.cells #[.int .i64 a.kind, .string a.text, .int .i64 a.num] 37)).alloc (.cells #[.int .i64 b.kind, .string b.text, .int .i64 b.num] 37)).heap[w.heap.size]? = some (.cells #[.string m.name, .int .i64 m.how, .int .i64 m.far, .int .i64 m.pts] 119 (0, 0)) := (heap_lt (by simp; omega)).trans ((heap_lt (by simp)).trans (heap_alloc_new _ _))
  have h2 : (((w.alloc (.cells #[.string m.name, .int .i64 m.how, .int .i64 m.far, .int .i64 m.pts] 119)).alloc (.cells #[.int .i64 a.kind, .string a.text, .int .i64 a.num] 37)).alloc (.cells #[.int .i64 b.kind, .string b.text, .int .i64 b.num] 37)).heap[w.heap.size + 1]? = some (.cells #[.int .i64 a.kind, .string a.text, .int .i64 a.num] 37 (0, 0)) := (heap_lt (by simp)).trans (by have := heap_alloc_new (w.alloc (.cells #[.string m.name, .int .i64 m.how, .int .i64 m.far, .int .i64 m.pts] 119)) (.cells #[.int .i64 a.kind, .string a.text, .int .i64 a.num] 37); simpa using this)
  have h3 : (((w.alloc (.cells #[.string m.name, .int .i64 m.how, .int .i64 m.far, .int .i64 m.pts] 119)).alloc (.cells #[.int .i64 a.kind, .string a.text, .int .i64 a.num] 37)).alloc (.cells #[.int .i64 b.kind, .string b.text, .int .i64 b.num] 37)).heap[w.heap.size + 1 + 1]? = some (.cells #[.int .i64 b.kind, .string b.text, .int .i64 b.num] 37 (0, 0)) := by have := heap_alloc_new ((w.alloc (.cells #[.string m.name, .int .i64 m.how, .int .i64 m.far, .int .i64 m.pts] 119)).alloc (.cells #[.int .i64 a.kind, .string a.text, .int .i64 a.num] 37)) (.cells #[.int .i64 b.kind, .string b.text, .int .i64 b.num] 37); simpa using this
  have HBB : Hid (Below w.heap.size w (((w.alloc (.cells #[.string m.name, .int .i64 m.how, .int .i64 m.far, .int .i64 m.pts] 119)).alloc (.cells #[.int .i64 a.kind, .string a.text, .int .i64 a.num] 37)).alloc (.cells #[.int .i64 b.kind, .string b.text, .int .i64 b.num] 37))) := ((new1 _).trans ((new1 _).mono (by simp))).trans ((new1 _).mono (by simp; omega))
  have HIN := Lib.hid (((hH.alloc (.cells #[.string m.name, .int .i64 m.how, .int .i64 m.far, .int .i64 m.pts] 119)).alloc (.cells #[.int .i64 a.kind, .string a.text, .int .i64 a.num] 37)).alloc (.cells #[.int .i64 b.kind, .string b.text, .int .i64 b.num] 37))
  clear hU hH
  go_enter Tryz.func144, Tryz.ntmps144
  go_upto_region 1 with (fail)
  generalize ((w.alloc (.cells #[.string m.name, .int .i64 m.how, .int .i64 m.far, .int .i64 m.pts] 119)).alloc (.cells #[.int .i64 a.kind, .string a.text, .int .i64 a.num] 37)).alloc (.cells #[.int .i64 b.kind, .string b.text, .int .i64 b.num] 37) = W1 at *
  have m1 := cell_h h1 1 (v := .int .i64 m.how) rfl
  have m2 := cell_h h1 2 (v := .int .i64 m.far) rfl
  have a0 := cell_h h2 0 (v := .int .i64 a.kind) rfl
  have a1 := cell_h h2 1 (v := .string a.text) rfl
  have a2 := cell_h h2 2 (v := .int .i64 a.num) rfl
  have b0 := cell_h h3 0 (v := .int .i64 b.kind) rfl
  have b1 := cell_h h3 1 (v := .string b.text) rfl
  have b2 := cell_h h3 2 (v := .int .i64 b.num) rfl
  clear h1 h2 h3
  by_cases g1 : m.how = 1
  · have k1 : (m.how == 1) = true := by simpa using g1
    have HV : Hid (alikeV ptS m a b = sameV a b) := by show _ = _; unfold alikeV; rw [if_pos g1]
    clear g1
    go_wp2_with fail
    all_goals (go_ret; exact ⟨ret_bool' (by rw [HV.out]; unfold sameV; simp [*]), HBB.out⟩)
  · have k1 : (m.how == 1) = false := by simpa using g1
    by_cases g2 : a.kind = 1 ∧ b.kind = 1
    rotate_left
    · have HV : Hid (alikeV ptS m a b = false) := by show _ = _; unfold alikeV; rw [if_neg g1, if_neg g2]
      by_cases g3 : a.kind = 1
      · have k3 : (a.kind != 1) = false := by simpa using g3
        have k4 : (b.kind != 1) = true := by simp; exact fun c => g2 ⟨g3, c⟩
        clear g1 g2 g3
        go_wp2_with fail
        go_ret
        exact ⟨ret_bool' HV.out.symm, HBB.out⟩
      · have k3 : (a.kind != 1) = true := by simpa using g3
        clear g1 g2 g3
        go_wp2_with fail
        go_ret
        exact ⟨ret_bool' HV.out.symm, HBB.out⟩
    · have k3 : (a.kind != 1) = false := by simpa using g2.1
      have k4 : (b.kind != 1) = false := by simpa using g2.2
      have HV : Hid (alikeV ptS m a b = if m.how = 2 then decide (distL (ptS a.text) (ptS b.text) ≤ m.far) else decide (m.far ≤ (ptS a.text).length) && decide (m.far ≤ (ptS b.text).length) && ((ptS a.text).take m.far.toNat == (ptS b.text).take m.far.toNat)) := by show _ = _; unfold alikeV; rw [if_neg g1, if_pos g2]
      have la := ptS_len a.text
      have lb := ptS_len b.text
      have M1 := lift_cell m1
      have M2 := lift_cell m2
      have A1 := lift_cell a1
      have B1 := lift_cell b1
      clear g1 g2
      go_upto_region 5 with (fail)
      clear m1 m2 a0 a1 a2 b0 b1 b2 k3 k4
      refine wp_region_conc 6 61 (φA (w.heap.size + 1) (w.heap.size + 1 + 1) a.text b.text) (fun _ W => Below W1.heap.size W1 W) (fun x y => Below x.heap.size x y) (by kernel_rfl) (by kernel_rfl) (by rfl) (Below.refl _ _).drew φA_mono ?_ ?_
      · intro n o hn ho ac W2 kk hkk hJ hkn
        have hcs : n = 0 ∨ n = 1 ∨ n = 2 ∨ n = 3 ∨ n = 4 ∨ n = 5 := by omega
        have hIN2 := HIN.out.below hJ
        rcases hcs with rfl | rfl | rfl | rfl | rfl | rfl
        · obtain rfl := Option.some.inj ho
          have h1 := slotA_of (hkn 4 (by decide) : ac.tmps.getD 4 undef = .pointer (some ⟨w.heap.size + 1, 0, none⟩))
          clear hkn ho
          simp only [OpV, execOp]
          simp [go_sem, h1]
          exact ⟨rfl, hJ, Below.refl _ _⟩
        · obtain rfl := Option.some.inj ho
          have h1 := slotA_of (hkn 23 (by decide) : ac.tmps.getD 23 undef = .pointer (some ⟨w.heap.size + 1, 1, none⟩))
          have hc := A1 _ hJ
          clear hkn ho
          simp only [OpV, execOp]
          simp [go_sem, h1, hc]
          exact ⟨rfl, hJ, Below.refl _ _⟩
        · obtain rfl := Option.some.inj ho
          have h1 := slotA_of (hkn 24 (by decide) : ac.tmps.getD 24 undef = .string a.text)
          clear hkn ho
          simp only [OpV, execOp]
          simp [go_sem, h1]
          refine (HPT.out a.text W2 hIN2 ha).mono ?_
          rintro e W3 ⟨v, rfl, hI⟩
          exact ⟨v, rfl, RuF.of hI, hJ.trans (hI.bel.mono hJ.size), hI.bel⟩
        · obtain rfl := Option.some.inj ho
          have h1 := slotA_of (hkn 5 (by decide) : ac.tmps.getD 5 undef = .pointer (some ⟨w.heap.size + 1 + 1, 0, none⟩))
          clear hkn ho
          simp only [OpV, execOp]
          simp [go_sem, h1]
          exact ⟨rfl, hJ, Below.refl _ _⟩
        · obtain rfl := Option.some.inj ho
          have h1 := slotA_of (hkn 26 (by decide) : ac.tmps.getD 26 undef = .pointer (some ⟨w.heap.size + 1 + 1, 1, none⟩))
          have hc := B1 _ hJ
          clear hkn ho
          simp only [OpV, execOp]
          simp [go_sem, h1, hc]
          exact ⟨rfl, hJ, Below.refl _ _⟩
        · obtain rfl := Option.some.inj ho
          have h1 := slotA_of (hkn 27 (by decide) : ac.tmps.getD 27 undef = .string b.text)
          clear hkn ho
          simp only [OpV, execOp]
          simp [go_sem, h1]
          refine (HPT.out b.text W2 hIN2 hb).mono ?_
          rintro e W3 ⟨v, rfl, hI⟩
          exact ⟨v, rfl, RuF.of hI, hJ.trans (hI.bel.mono hJ.size), hI.bel⟩
      · intro x W5 hJ5 hφ
        obtain ⟨Aa, ca, Ha, e2, hca, hia, hra⟩ : RuF (x 2) (ptS a.text) W5 := hφ 2 (by omega)
        obtain ⟨Ab, cb, Hb, e5, hcb, hib, hrb⟩ : RuF (x 5) (ptS b.text) W5 := hφ 5 (by omega)
        have HIN5 := Lib.hid (Frz.both_in hia hib)
        have HRA := Lib.hid (hra.le (Frz.le_left Ha Hb))
        have HRB := Lib.hid (hrb.le (Frz.le_right hia hib))
        have HB5 := Lib.hid (HBB.out.trans (hJ5.mono HBB.out.size))
        have m1 := M1 _ hJ5
        have m2 := M2 _ hJ5
        generalize Frz.both Ha Hb = H5 at *
        clear hφ hJ5 hia hib hra hrb M1 M2 A1 B1 HIN HBB HPT
        generalize ptS a.text = pa at *
        generalize ptS b.text = pb at *
        simp only [List.drop_succ_cons, List.drop_zero, List.take_succ_cons, List.take_zero, putAll, Nat.reduceAdd, e2, e5]
        clear e2 e5
        generalize x 0 = y0
        generalize x 1 = y1
        generalize x 3 = y3
        generalize x 4 = y4
        by_cases g3 : m.how = 2
        · have k5 : (m.how == 2) = true := by simpa using g3
          rw [if_pos g3] at HV
          have HD := Lib.hid (fun W (hW : H5.In W) => distance_any H5 Aa Ab ca cb pa pb W hW HRA.out HRB.out (by omega) (by omega))
          clear g3
          go_upto_region 7 with (fail)
          have M3 := lift_cell m2
          (refine wp_region_det 6 61 (fun W => Below (W5).heap.size (W5) W) (by kernel_rfl) (by kernel_rfl) (by rfl) (Below.refl _ _).drew ?_; simp only [List.take_succ_cons, List.take_zero, List.drop_succ_cons, List.drop_zero])
          iterate 2 (refine detSeq_op rfl ?_ (fun W hW => ?_) ?_; rotate_left; (focus simp only [OpV]; go_simp; first | exact rfl | exact ⟨rfl, hW⟩))
          (refine detSeq_op rfl ?_ (fun W hW => ?_) ?_; rotate_left; focus (simp only [OpV]; go_simp; refine (HD.out W (HIN5.out.below hW)).mono ?_; rintro e w' ⟨rfl, hb⟩; refine ⟨_, rfl, ?_, det_back hW hb⟩; exact rfl))
          iterate 3 (refine detSeq_op rfl ?_ (fun W hW => ?_) ?_; rotate_left; (focus simp only [OpV]; go_simp; first | exact rfl | exact ⟨rfl, hW⟩))
          refine detSeq_nil (fun W3 hW3 => ?_)
          have HB6 := Lib.hid (HB5.out.trans (hW3.mono HB5.out.size))
          clear hW3 M3
          go_wp2_with fail
          go_ret
          exact ⟨ret_bool' HV.out.symm, HB6.out⟩
        · have k5 : (m.how == 2) = false := by simpa using g3
          rw [if_neg g3] at HV
          clear g3
          obtain ⟨n, hn⟩ := Int.eq_ofNat_of_zero_le hf.1
          rw [hn] at HV m2
          rw [Int.toNat_natCast] at HV
          have M3 := lift_cell m2
          by_cases f1 : n ≤ pa.length
          rotate_left
          · have d1 : decide ((n : Int) ≤ (pa.length : Int)) = false := by simp; omega
            have hv : Hid (alikeV ptS m a b = false) := HV.out.trans (by rw [d1]; rfl)
            go_upto_region 8 with (fail)
            (refine wp_region_det 23 61 (fun W => Below (W5).heap.size (W5) W) (by kernel_rfl) (by kernel_rfl) (by rfl) (Below.refl _ _).drew ?_; simp only [List.take_succ_cons, List.take_zero, List.drop_succ_cons, List.drop_zero])
            iterate 4 (refine detSeq_op rfl ?_ (fun W hW => ?_) ?_; rotate_left; (focus simp only [OpV]; go_simp; first | exact rfl | exact ⟨rfl, hW⟩))
            (refine detSeq_op rfl (.bool false) (fun W hW => ?_) ?_; focus (simp only [OpV]; go_simp; try (first | exact rfl | exact hW | (have h9 := d1; simp at h9; omega))))
            iterate 1 (refine detSeq_op rfl ?_ (fun W hW => ?_) ?_; rotate_left; (focus simp only [OpV]; go_simp; first | exact rfl | exact ⟨rfl, hW⟩))
            iterate 5 (refine detSeq_no (by kernel_rfl) ?_)
            iterate 2 (refine detSeq_op rfl ?_ (fun W hW => ?_) ?_; rotate_left; (focus simp only [OpV]; go_simp; first | exact rfl | exact ⟨rfl, hW⟩))
            iterate 9 (refine detSeq_no (by kernel_rfl) ?_)
            iterate 1 (refine detSeq_op rfl ?_ (fun W hW => ?_) ?_; rotate_left; (focus simp only [OpV]; go_simp; first | exact rfl | exact ⟨rfl, hW⟩))
            refine detSeq_nil (fun W3 hW3 => ?_)
            have HB6 := Lib.hid (HB5.out.trans (hW3.mono HB5.out.size))
            clear hW3 M3
            go_wp2_with fail
            go_ret
            exact ⟨ret_bool' hv.out.symm, HB6.out⟩
          have d1 : decide ((n : Int) ≤ (pa.length : Int)) = true := by simp; omega
          by_cases f2 : n ≤ pb.length
          rotate_left
          · have d2 : decide ((n : Int) ≤ (pb.length : Int)) = false := by simp; omega
            have hv : Hid (alikeV ptS m a b = false) := HV.out.trans (by rw [d1, d2]; rfl)
            go_upto_region 8 with (fail)
            (refine wp_region_det 23 61 (fun W => Below (W5).heap.size (W5) W) (by kernel_rfl) (by kernel_rfl) (by rfl) (Below.refl _ _).drew ?_; simp only [List.take_succ_cons, List.take_zero, List.drop_succ_cons, List.drop_zero])
            iterate 4 (refine detSeq_op rfl ?_ (fun W hW => ?_) ?_; rotate_left; (focus simp only [OpV]; go_simp; first | exact rfl | exact ⟨rfl, hW⟩))
            (refine detSeq_op rfl (.bool true) (fun W hW => ?_) ?_; focus (simp only [OpV]; go_simp; try (first | exact rfl | exact hW | (have h9 := d1; simp at h9; omega))))
            iterate 1 (refine detSeq_op rfl ?_ (fun W hW => ?_) ?_; rotate_left; (focus simp only [OpV]; go_simp; first | exact rfl | exact ⟨rfl, hW⟩))
            iterate 4 (refine detSeq_yes (by kernel_rfl) ?_ (fun W hW => ?_) ?_; rotate_left; (focus simp only [OpV]; go_simp; first | exact rfl | exact ⟨rfl, hW⟩))
            (refine detSeq_yes (by kernel_rfl) (.bool false) (fun W hW => ?_) ?_; focus (simp only [OpV]; go_simp; try (first | exact rfl | exact hW | (have h9 := d2; simp at h9; omega))))
            iterate 2 (refine detSeq_op rfl ?_ (fun W hW => ?_) ?_; rotate_left; (focus simp only [OpV]; go_simp; first | exact rfl | exact ⟨rfl, hW⟩))
            iterate 9 (refine detSeq_no (by kernel_rfl) ?_)
            iterate 1 (refine detSeq_op rfl ?_ (fun W hW => ?_) ?_; rotate_left; (focus simp only [OpV]; go_simp; first | exact rfl | exact ⟨rfl, hW⟩))
            refine detSeq_nil (fun W3 hW3 => ?_)
            have HB6 := Lib.hid (HB5.out.trans (hW3.mono HB5.out.size))
            clear hW3 M3
            go_wp2_with fail
            go_ret
            exact ⟨ret_bool' hv.out.symm, HB6.out⟩
          have d2 : decide ((n : Int) ≤ (pb.length : Int)) = true := by simp; omega
          rw [d1, d2] at HV
          have hla : (pa.take n).length = n := by rw [List.length_take]; omega
          have hlb : (pb.take n).length = n := by rw [List.length_take]; omega
          have HEQ := Lib.hid (fun W (hW : H5.In W) => equalR_any H5 Aa Ab ca cb (pa.take n) (pb.take n) W hW (HRA.out.take n) (HRB.out.take n) (by omega) (by omega))
          rw [hla, hlb] at HEQ
          go_upto_region 8 with (fail)
          (refine wp_region_det 23 61 (fun W => Below (W5).heap.size (W5) W) (by kernel_rfl) (by kernel_rfl) (by rfl) (Below.refl _ _).drew ?_; simp only [List.take_succ_cons, List.take_zero, List.drop_succ_cons, List.drop_zero])
          iterate 4 (refine detSeq_op rfl ?_ (fun W hW => ?_) ?_; rotate_left; (focus simp only [OpV]; go_simp; first | exact rfl | exact ⟨rfl, hW⟩))
          (refine detSeq_op rfl (.bool true) (fun W hW => ?_) ?_; focus (simp only [OpV]; go_simp; try (first | exact rfl | exact hW | (have h9 := d1; simp at h9; omega))))
          iterate 1 (refine detSeq_op rfl ?_ (fun W hW => ?_) ?_; rotate_left; (focus simp only [OpV]; go_simp; first | exact rfl | exact ⟨rfl, hW⟩))
          iterate 4 (refine detSeq_yes (by kernel_rfl) ?_ (fun W hW => ?_) ?_; rotate_left; (focus simp only [OpV]; go_simp; first | exact rfl | exact ⟨rfl, hW⟩))
          (refine detSeq_yes (by kernel_rfl) (.bool true) (fun W hW => ?_) ?_; focus (simp only [OpV]; go_simp; try (first | exact rfl | exact hW | (have h9 := d2; simp at h9; omega))))
          iterate 2 (refine detSeq_op rfl ?_ (fun W hW => ?_) ?_; rotate_left; (focus simp only [OpV]; go_simp; first | exact rfl | exact ⟨rfl, hW⟩))
          iterate 3 (refine detSeq_yes (by kernel_rfl) ?_ (fun W hW => ?_) ?_; rotate_left; (focus simp only [OpV]; go_simp; first | exact rfl | exact ⟨rfl, hW⟩))
          (refine detSeq_yes (by kernel_rfl) (.slice Aa n ca) (fun W hW => ?_) ?_; focus (simp only [OpV]; go_simp; rw [if_pos (show n ≤ ca by omega)]; exact ⟨rfl, hW⟩))
          iterate 3 (refine detSeq_yes (by kernel_rfl) ?_ (fun W hW => ?_) ?_; rotate_left; (focus simp only [OpV]; go_simp; first | exact rfl | exact ⟨rfl, hW⟩))
          (refine detSeq_yes (by kernel_rfl) (.slice Ab n cb) (fun W hW => ?_) ?_; focus (simp only [OpV]; go_simp; rw [if_pos (show n ≤ cb by omega)]; exact ⟨rfl, hW⟩))
          (refine detSeq_yes (by kernel_rfl) ?_ (fun W hW => ?_) ?_; rotate_left; focus (simp only [OpV]; go_simp; refine (HEQ.out W (HIN5.out.below hW)).mono ?_; rintro e w' ⟨rfl, hb⟩; refine ⟨_, rfl, ?_, det_back hW hb⟩; exact rfl))
          iterate 1 (refine detSeq_op rfl ?_ (fun W hW => ?_) ?_; rotate_left; (focus simp only [OpV]; go_simp; first | exact rfl | exact ⟨rfl, hW⟩))
          refine detSeq_nil (fun W3 hW3 => ?_)
          have HB6 := Lib.hid (HB5.out.trans (hW3.mono HB5.out.size))
          clear hW3 M3
          go_wp2_with fail
          go_ret
          exact ⟨ret_bool' (HV.out.trans (by simp)).symm, HB6.out⟩
end Go.Proofs.YtbidhpgjmcedaaaGreatDoor
