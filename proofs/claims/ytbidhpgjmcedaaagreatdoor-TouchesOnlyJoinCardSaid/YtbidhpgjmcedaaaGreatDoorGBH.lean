/- Texts of this claim, put together: RightTcP, RightTc, RightRul, Told, TouchesOnlyJoin. -/
import Derived.Test.YtbidhpgjmcedaaaGreatDoorGBG
import Derived.Test.YtbidhpgjmcedaaaGreatDoorGBC
import Derived.Test.YtbidhpgjmcedaaaGreatDoorGAE
import Derived.Laws.Rows
import Derived.Test.YtbidhpgjmcedaaaGreatDoorGBE
import Derived.Test.YtbidhpgjmcedaaaGreatDoorGAW
import Derived.Test.YtbidhpgjmcedaaaGreatDoorGBD
/- Touches that are right, one by one: plainly. -/
namespace Go.Proofs.YtbidhpgjmcedaaaGreatDoor
set_option linter.unusedVariables false
open Go.RowKit
/-- All touches of a list are right. -/
def RightTs (ts : List TchD) : Prop := fstErr (tch1 okT ts) ts.length = 0
theorem tchE_more {ok : ByteArray → Bool} {t : TchD} {b : Int} (h : tchE ok t 0 = 0) (hb : b < t.no) : tchE ok t b = 0 := by
  unfold tchE at h ⊢
  split at h
  · cases h
  rename_i h1
  rw [if_neg h1]
  split at h
  · cases h
  rename_i h2
  rw [if_neg h2]
  split at h
  · cases h
  rw [if_neg (by omega)]
  exact h
theorem tchs_one {ok : ByteArray → Bool} {t : TchD} (h : tchsE ok [t] = 0) : tchE ok t 0 = 0 := by
  unfold tchsE at h
  rw [if_neg (by simp)] at h
  exact fstErr_zero.1 h 0 (by simp)
theorem prevNo_app {ts : List TchD} {t : TchD} {i : Nat} (h : i ≤ ts.length) : prevNo (ts ++ [t]) i = prevNo ts i := by
  cases i with
  | zero => rfl
  | succ i =>
    unfold prevNo
    simp only
    rw [List.getElem?_append_left (by omega)]
theorem RightTs.nil : RightTs [] := rfl
theorem RightTs.snoc {ts : List TchD} {t : TchD} (h : RightTs ts) (h1 : tchE okT t 0 = 0) (h2 : prevNo ts ts.length < t.no) : RightTs (ts ++ [t]) := by
  unfold RightTs at h ⊢
  have h0 := fstErr_zero.1 h
  refine fstErr_zero.2 fun i hi => ?_
  by_cases e : i < ts.length
  · have := h0 i e
    unfold tch1 at this ⊢
    rw [List.getElem?_append_left e, prevNo_app (by omega)]
    exact this
  · have e2 : i = ts.length := by simp at hi; omega
    subst e2
    unfold tch1
    rw [List.getElem?_append_right (Nat.le_refl _), Nat.sub_self]
    simp only [List.getElem?_cons_zero]
    rw [prevNo_app (Nat.le_refl _)]
    exact tchE_more h1 h2
theorem RightTs.all {ts : List TchD} (h : RightTs ts) (hl : ts.length ≤ 2000) : tchsE okT ts = 0 := by
  unfold tchsE
  rw [if_neg (by omega)]
  exact h
theorem prev_last {ts : List TchD} (h : 0 < ts.length) : prevNo ts ts.length = (ts[ts.length - 1]'(by omega)).no := by
  obtain ⟨n, hn⟩ : ∃ n, ts.length = n + 1 := ⟨ts.length - 1, by omega⟩
  have e : prevNo ts (n + 1) = (ts[n]'(by omega)).no := by
    unfold prevNo
    simp only
    rw [List.getElem?_eq_getElem (by omega)]
  have e2 : ts.length - 1 = n := by omega
  simp only [e2]
  exact (congrArg (prevNo ts) hn).trans e
section
variable {D : Type} {T k : Nat} {f : D → Nat → Value} {w W wr W' : World} {bs K K' : Nat} {H H' : Frz} {v : Value} {ds : List D}
/-- More memory is laid, by a call that asks the stream. -/
theorem RG.laid (h : RG T k f w bs K H W v ds wr) (L : Lw w bs K' H' W') (g : wr.grownBy W' (some bs)) (ho : ∀ b, b < wr.heap.size → H' b = H b) : RG T k f w bs K' H' W v ds W' :=
  ⟨⟨L, h.1.row.far g h.1.2.2.2.1, (fun q hq => (ho q (h.1.row.lt hq).2).trans (h.1.2.2.1 q hq)), h.1.2.2.2.1, Nat.le_trans h.1.2.2.2.2 g.size⟩, vm_then h.2 g⟩
end
end Go.Proofs.YtbidhpgjmcedaaaGreatDoor

/- What a stream makes: right touches. -/
namespace Go.Proofs.YtbidhpgjmcedaaaGreatDoor
set_option linter.unusedVariables false
open Go.RowKit
abbrev TcM := RG (D := TchD) 53 5 fTch
theorem infoTch9 : (Tryz.prog.info? 53).map (fun i => (i.zero, i.size, i.bytes)) = some (some (.agg #[.int .i64 0, .int .i64 0, .string ⟨#[]⟩, .slice none 0 0, .slice none 0 0]), 5, 80) := by kernel_rfl
/-- What right touches are, in the making. -/
structure TcsOk (H : Frz) (ts : List TchD) : Prop where
  inn : ∀ t ∈ ts, TcIn H t
  right : RightTs ts
theorem TcsOk.le {H H' : Frz} {ts : List TchD} (h : TcsOk H ts) (hl : H.Le H') : TcsOk H' ts := ⟨fun t ht => (h.inn t ht).le hl, h.right⟩
theorem TcsOk.snoc {H : Frz} {ts : List TchD} {t : TchD} (h : TcsOk H ts) (ht : TcIn H t) (h1 : tchE okT t 0 = 0) (h2 : prevNo ts ts.length < t.no) : TcsOk H (ts ++ [t]) :=
  ⟨fun x hx => by
    rcases List.mem_append.1 hx with hx | hx
    · exact h.inn x hx
    · simp at hx; rw [hx]; exact ht, h.right.snoc h1 h2⟩
def φR (bs g : Nat) (v : Value) (n : Int) (j : Nat) (pn : Int) (i : Nat) (x : Value) (W : World) : Prop :=
  match i with
  | 0 => x = v
  | 1 => x = .int .i64 n
  | 2 => x = .int .i64 (j : Int)
  | 3 => x = .pointer (some ⟨g, j * 5, none⟩)
  | 4 => x = .pointer (some ⟨g, j * 5, none⟩)
  | 5 => x = .int .i64 pn
  | 6 => x = .pointer (some ⟨bs, 0, none⟩)
  | 7 => ∃ g, x = .slice (some ⟨g, 0, none⟩) 3 3 ∧ AtM bs W g (.cells #[.int .i64 1, .int .i64 1, .int .i64 2] 3 (0, 0))
  | 8 => ∃ z : Int, x = .int .i64 z ∧ 1 ≤ z ∧ z ≤ 2
  | _ => ∃ z : Int, x = .int .i64 z ∧ pn < z ∧ z ≤ pn + 2
theorem φR_mono {bs g j : Nat} {v : Value} {n pn : Int} (i : Nat) (x : Value) (W W' : World) (_ : i < 10) (he : W.grownBy W' (some bs)) (h : φR bs g v n j pn i x W) : φR bs g v n j pn i x W' := by
  match i with
  | 0 => exact h
  | 1 => exact h
  | 2 => exact h
  | 3 => exact h
  | 4 => exact h
  | 5 => exact h
  | 6 => exact h
  | 7 => obtain ⟨g, h1, h2⟩ := h; exact ⟨g, h1, h2.keep he⟩
  | 8 => exact h
  | n + 9 => exact h
theorem RG.drew {D : Type} {T k : Nat} {f : D → Nat → Value} {w W wr : World} {bs K : Nat} {H : Frz} {v : Value} {ds : List D} (h : RG T k f w bs K H W v ds wr) : RG T k f w bs K H W v ds wr.drew := h.call ((Below.refl _ _).drew)
theorem RG.same {D : Type} {T k : Nat} {f : D → Nat → Value} {w W wr : World} {bs K n : Nat} {H : Frz} {v : Value} {ds : List D} (h : RG T k f w bs (K + n) H W v ds wr) : RG T k f w bs (K + (n + 1)) H W v ds wr := h.more (by omega)
theorem prev_bound {ts : List TchD} (h : RightTs ts) : 0 ≤ prevNo ts ts.length ∧ prevNo ts ts.length ≤ 1000000 := by
  rcases Nat.eq_zero_or_pos ts.length with h0 | h0
  · rw [h0]
    exact ⟨Int.le_refl _, by show (0 : Int) ≤ _; omega⟩
  · rw [prev_last h0]
    have := fstErr_zero.1 h (ts.length - 1) (by omega)
    unfold tch1 at this
    rw [List.getElem?_eq_getElem (by omega)] at this
    simp only at this
    unfold tchE at this
    split at this
    · cases this
    · rename_i g
      have := Decidable.not_not.1 g
      omega
theorem row_one {H : Frz} {q : Nat} {d : TchD} (h : H q = some (.cells #[.int .i64 d.no, .int .i64 d.at_, .string d.source, .slice d.ia d.ids.length d.ic, .slice d.fa d.fields.length d.fc] 53 (0, 0))) : Rw H (some ⟨q, 0, none⟩) 5 fTch [d] := by
  intro i hi
  have : i = 0 := by simp at hi; omega
  subst this
  refine ⟨q, 0, rfl, fun j hj => ?_⟩
  have hc : j = 0 ∨ j = 1 ∨ j = 2 ∨ j = 3 ∨ j = 4 := by omega
  rcases hc with rfl | rfl | rfl | rfl | rfl <;> simp [Frz.cell?, h, fTch]
def RtPost (w : World) (bs K m : Nat) (H : Frz) (W : World) (e : Ending) (W' : World) : Prop := ∃ v ts H', e = .returned v ∧ H.Le H' ∧ (∀ b, b < W.heap.size → H' b = H b) ∧ TcM w bs (K + 600 * m + 20) H' W v ts W' ∧ TcsOk H' ts ∧ ts.length ≤ m
set_option maxHeartbeats 8000000 in
set_option maxRecDepth 100000 in
theorem Lw.rightTouches {w W : World} {bs K : Nat} {H : Frz} (h : Lw w bs K H W) (hK : K ≤ 200000) (hP : PoolIn H) (hN : NamesIn H) (hU : UtfIn H) (hM : MLen H) (m : Nat) (hm : m ≤ 100) :
    Calls Tryz.prog 20 #[.pointer (some ⟨bs, 0, none⟩), .int .i64 m] W (RtPost w bs K m H W) := by
  obtain ⟨i0, hi0, hz0, hz1, hz2⟩ := info_parts infoTch9
  have hbs := h.lt
  have C0 : Hid (TcM w bs K H W (.slice none 0 0) [] W) := RG.start h
  have HP := Lib.hid hP
  have HN := Lib.hid hN
  have HU := Lib.hid hU
  have HM := Lib.hid hM
  clear h hP hN hU hM
  go_enter Tryz.func20, Tryz.ntmps20
  go_wp2_with fail
  go_loopw [5, 10] (fun v t wr => ∃ (i : Nat) (ts : List TchD) (H' : Frz), i ≤ m ∧ t = .int .i64 i ∧ Hid (H.Le H') ∧ Hid (∀ b, b < W.heap.size → H' b = H b) ∧ Hid (TcM w bs (K + 600 * i) H' W v ts wr) ∧ ts.length ≤ i ∧ Hid (TcsOk H' ts)) (fun _ t _ => m - (intOf t).toNat)
  case atStart => exact ⟨0, [], H, by omega, rfl, Frz.Le.refl _, (fun b hb => rfl), C0, by simp, ⟨(fun t ht => by cases ht), RightTs.nil⟩⟩
  case round =>
    obtain ⟨i, ts, H1, hi, rfl, HLE, HOLD, C, hdl, HOK⟩ := hrel
    clear C0
    obtain ⟨A, cap, hv, hle⟩ := C.out.1.row.slice
    by_cases hlt : i < m
    · have di : decide ((i : Int) < (m : Int)) = true := by simp; omega
      subst hv
      have hpb := prev_bound HOK.out.right
      go_upto_if 15 with (fail)
      go_cut [6] (fun q6 wx => ∃ no : Int, q6 = .int .i64 no ∧ prevNo ts ts.length < no ∧ no ≤ 1000002 ∧ Hid (TcM w bs (K + 600 * i + 20) H1 W (.slice A ts.length cap) ts wx))
      case first =>
        by_cases hne : ts = []
        · subst hne
          go_wp2_with fail
          all_goals (go_meet; exact ⟨1, rfl, by show (0 : Int) < 1; omega, by omega, C.out.more (by omega)⟩)
        · have hpos : 0 < ts.length := List.length_pos_iff.2 hne
          have k0 : decide ((0 : Int) < (ts.length : Int)) = true := by simp; omega
          obtain ⟨go, capg, rest, hv, hleg, hBg, hglt, hmg, hblk, hrg⟩ := C.out.1.row.form hne
          simp only [Value.slice.injEq, true_and] at hv
          obtain ⟨rfl, rfl⟩ := hv
          obtain ⟨j, hj⟩ : ∃ j, ts.length = j + 1 := ⟨ts.length - 1, by omega⟩
          have hjl : j < ts.length := by omega
          have hlast : prevNo ts ts.length = ts[j].no := by rw [prev_last hpos]; congr 2; omega
          have a1 : IntKind.i64.wrap ((ts.length : Int) - 1) = (j : Int) := by rw [show (ts.length : Int) - 1 = j by omega]; exact IntWalk.i64_in _ (by omega)
          have HCELL : Hid (∀ W', Orow W' W.heap.size 53 5 fTch (.slice (some ⟨go, 0, none⟩) ts.length cap) ts → W'.cell? ⟨go, j * 5, none⟩ = some (.int .i64 (prevNo ts ts.length))) := fun W' ho => by
            obtain ⟨g2, cap2, rest2, hv2, -, -, -, -, hblk2, -⟩ := ho.form hne
            simp only [Value.slice.injEq, true_and, Option.some.injEq, Addr.mk.injEq, and_true] at hv2
            obtain ⟨rfl, rfl⟩ := hv2
            rw [hlast]
            exact hblk2.cell j 0 hjl (by omega)
          have HJ := Lib.hid hj
          clear hblk hrg hmg hj
          generalize prevNo ts ts.length = pn at *
          go_upto_region 7 with (fail)
          refine wp_region_conc 10 45 (φR bs go (.slice (some ⟨go, 0, none⟩) ts.length cap) ts.length j pn) (fun n W' => TcM w bs (K + 600 * i + n) H1 W (.slice (some ⟨go, 0, none⟩) ts.length cap) ts W' ∧ wr.heap.size ≤ W'.heap.size) (fun a b => a.grownBy b (some bs)) (by kernel_rfl) (by kernel_rfl) (by rfl) ⟨C.out.drew, Nat.le_refl _⟩ φR_mono ?_ ?_
          · intro n o hn ho a W2 kk hkk hJ hkn
            have hcs : n = 0 ∨ n = 1 ∨ n = 2 ∨ n = 3 ∨ n = 4 ∨ n = 5 ∨ n = 6 ∨ n = 7 ∨ n = 8 ∨ n = 9 := by omega
            rcases hcs with rfl | rfl | rfl | rfl | rfl | rfl | rfl | rfl | rfl | rfl
            · obtain rfl := Option.some.inj ho
              exact ⟨hkn 5 (by decide), ⟨hJ.1.same, hJ.2⟩, World.grownBy.refl _ _⟩
            · obtain rfl := Option.some.inj ho
              exact ⟨hkn 7 (by decide), ⟨hJ.1.same, hJ.2⟩, World.grownBy.refl _ _⟩
            · obtain rfl := Option.some.inj ho
              have h1 := slotA_of (hkn 17 (by decide) : a.tmps.getD 17 undef = .int .i64 (ts.length : Int))
              clear hkn ho
              simp only [OpV, execOp]
              simp [go_sem, h1]
              refine ⟨?_, ⟨hJ.1.same, hJ.2⟩, World.grownBy.refl _ _⟩
              first | rfl | (show Value.int .i64 _ = Value.int .i64 _; congr 1; done) | (show Value.int .i64 _ = Value.int .i64 _; congr 1; first | exact a1 | (rw [IntWalk.wrap64_in _ (by omega)]; have := HJ.out; omega))
            · obtain rfl := Option.some.inj ho
              have h1 := slotA_of (hkn 16 (by decide) : a.tmps.getD 16 undef = .slice (some ⟨go, 0, none⟩) ts.length cap)
              have h2 := slotA_of (hkn 18 (by decide) : a.tmps.getD 18 undef = .int .i64 (j : Int))
              have hjz : (j : Int) < ts.length := by omega
              clear hkn ho
              simp only [OpV, execOp]
              simp [go_sem, h1, h2, hjz]
              exact ⟨rfl, ⟨hJ.1.same, hJ.2⟩, World.grownBy.refl _ _⟩
            · obtain rfl := Option.some.inj ho
              have h1 := slotA_of (hkn 19 (by decide) : a.tmps.getD 19 undef = .pointer (some ⟨go, j * 5, none⟩))
              clear hkn ho
              simp only [OpV, execOp]
              simp [go_sem, h1]
              exact ⟨rfl, ⟨hJ.1.same, hJ.2⟩, World.grownBy.refl _ _⟩
            · obtain rfl := Option.some.inj ho
              have h1 := slotA_of (hkn 20 (by decide) : a.tmps.getD 20 undef = .pointer (some ⟨go, j * 5, none⟩))
              have hc := HCELL.out _ hJ.1.1.row
              clear hkn ho
              simp only [OpV, execOp]
              simp [go_sem, h1, hc]
              exact ⟨rfl, ⟨hJ.1.same, hJ.2⟩, World.grownBy.refl _ _⟩
            · obtain rfl := Option.some.inj ho
              exact ⟨hkn 0 (by decide), ⟨hJ.1.same, hJ.2⟩, World.grownBy.refl _ _⟩
            · obtain rfl := Option.some.inj ho
              clear hkn ho
              simp only [OpV, execOp]
              simp [go_sem]
              exact ⟨⟨W2.heap.size, rfl, AtM.new _ hJ.1.lw.lt⟩, ⟨(hJ.1.alloc _).same, by have := hJ.2; omega⟩, grown_alloc _ _⟩
            · obtain rfl := Option.some.inj ho
              have h1 := slotA_of (hkn 22 (by decide) : a.tmps.getD 22 undef = .pointer (some ⟨bs, 0, none⟩))
              obtain ⟨g, h2, h3⟩ : ∃ g, a.tmps.getD 23 undef = .slice (some ⟨g, 0, none⟩) 3 3 ∧ AtM bs W2 g (.cells #[.int .i64 1, .int .i64 1, .int .i64 2] 3 (0, 0)) := hkn 23 (by decide)
              replace h2 := slotA_of h2
              clear hkn ho
              simp only [OpV, execOp]
              simp [go_sem, h1, h2]
              exact (hJ.1.lw.pick (some ⟨g, 0, none⟩) 3 [1, 1, 2] (Ints.of_row h3.2 rfl) (fun b off e => by injection e with e; injection e with e1 e2; rw [← e1]; exact h3.1) (by simp) (by simp) (by omega)).mono fun e w'' ⟨z, he, hm, L', g', hz'⟩ => ⟨_, he, ⟨z, rfl, by simp at hm; omega, by simp at hm; omega⟩, ⟨hJ.1.asked L' g', by have := hJ.2; have := g'.size; omega⟩, g'⟩
            · obtain rfl := Option.some.inj ho
              have h1 := slotA_of (hkn 21 (by decide) : a.tmps.getD 21 undef = .int .i64 pn)
              obtain ⟨z, h2, hz1, hz2⟩ : ∃ z : Int, a.tmps.getD 24 undef = .int .i64 z ∧ 1 ≤ z ∧ z ≤ 2 := hkn 24 (by decide)
              replace h2 := slotA_of h2
              have hw : IntKind.i64.wrap (pn + z) = pn + z := IntWalk.i64_in _ (by omega)
              clear hkn ho
              simp only [OpV, execOp]
              simp [go_sem, h1, h2]
              exact ⟨⟨pn + z, by first | rfl | exact congrArg (Value.int .i64) hw | exact congrArg (Value.int .i64) (IntWalk.wrap64_in _ (by omega)), by omega, by omega⟩, ⟨hJ.1.same, hJ.2⟩, World.grownBy.refl _ _⟩
          · intro x W5 hJ5 hφ
            obtain ⟨z, e9, hz1, hz2⟩ : ∃ z : Int, x 9 = .int .i64 z ∧ pn < z ∧ z ≤ pn + 2 := hφ 9 (by omega)
            have HJ5 := Lib.hid hJ5.1
            clear hφ hJ5
            simp only [List.drop_succ_cons, List.drop_zero, List.take_succ_cons, List.take_zero, putAll, Nat.reduceAdd, e9]
            clear e9
            generalize x 0 = y0
            generalize x 1 = y1
            generalize x 2 = y2
            generalize x 3 = y3
            generalize x 4 = y4
            generalize x 5 = y5
            generalize x 6 = y6
            generalize x 7 = y7
            generalize x 8 = y8
            go_wp2_with fail
            go_meet
            exact ⟨z, rfl, hz1, by omega, HJ5.out.more (by omega)⟩
      case rest =>
        obtain ⟨no, rfl, hn1, hn2, C2⟩ := hcut
        clear C
        go_wp2_with fail
        refine (C2.out.lw.touch (by omega) (HP.out.le HLE.out) (HN.out.le HLE.out) no).mono ?_
        rintro e W3 ⟨d, H2, rfl, le2, old2, L3, g3, hd⟩
        have C3 := Lib.hid (C2.out.laid L3 g3 old2)
        have HLE2 := Lib.hid (HLE.out.trans le2)
        have HOLD2 : Hid (∀ b, b < W.heap.size → H2 b = H b) := fun b hb => (old2 b (Nat.lt_of_lt_of_le hb C2.out.2.size)).trans (HOLD.out b hb)
        have HOK2 := Lib.hid (HOK.out.le le2)
        have HD := Lib.hid hd
        clear C2 HLE HOLD HOK L3 g3 old2 le2 hd
        have D4 := Lib.hid (C3.out.alloc (.cells #[.int .i64 d.no, .int .i64 d.at_, .string d.source, .slice d.ia d.ids.length d.ic, .slice d.fa d.fields.length d.fc] 53))
        have z0 : (W3.alloc (.cells #[.int .i64 d.no, .int .i64 d.at_, .string d.source, .slice d.ia d.ids.length d.ic, .slice d.fa d.fields.length d.fc] 53)).cell? ⟨W3.heap.size, 0, none⟩ = some (.int .i64 d.no) := newc 0 rfl
        have z1 : (W3.alloc (.cells #[.int .i64 d.no, .int .i64 d.at_, .string d.source, .slice d.ia d.ids.length d.ic, .slice d.fa d.fields.length d.fc] 53)).cell? ⟨W3.heap.size, 1, none⟩ = some (.int .i64 d.at_) := newc 1 rfl
        have z2 : (W3.alloc (.cells #[.int .i64 d.no, .int .i64 d.at_, .string d.source, .slice d.ia d.ids.length d.ic, .slice d.fa d.fields.length d.fc] 53)).cell? ⟨W3.heap.size, 2, none⟩ = some (.string d.source) := newc 2 rfl
        have z3 : (W3.alloc (.cells #[.int .i64 d.no, .int .i64 d.at_, .string d.source, .slice d.ia d.ids.length d.ic, .slice d.fa d.fields.length d.fc] 53)).cell? ⟨W3.heap.size, 3, none⟩ = some (.slice d.ia d.ids.length d.ic) := newc 3 rfl
        have z4 : (W3.alloc (.cells #[.int .i64 d.no, .int .i64 d.at_, .string d.source, .slice d.ia d.ids.length d.ic, .slice d.fa d.fields.length d.fc] 53)).cell? ⟨W3.heap.size, 4, none⟩ = some (.slice d.fa d.fields.length d.fc) := newc 4 rfl
        clear C3
        go_upto_region 9 with (fail)
        generalize W3.alloc (.cells #[.int .i64 d.no, .int .i64 d.at_, .string d.source, .slice d.ia d.ids.length d.ic, .slice d.fa d.fields.length d.fc] 53) = W4 at *
        generalize W3.heap.size = mb at *
        have D5 := Lib.hid (D4.out.alloc (.cells #[.int .i64 d.no, .int .i64 d.at_, .string d.source, .slice d.ia d.ids.length d.ic, .slice d.fa d.fields.length d.fc] 53))
        have HNW := Lib.hid (new1 (w := W4) (.cells #[.int .i64 d.no, .int .i64 d.at_, .string d.source, .slice d.ia d.ids.length d.ic, .slice d.fa d.fields.length d.fc] 53))
        have HIN5 := Lib.hid ((D4.out.lw.fin.alloc (.cells #[.int .i64 d.no, .int .i64 d.at_, .string d.source, .slice d.ia d.ids.length d.ic, .slice d.fa d.fields.length d.fc] 53)).add (heap_alloc_new W4 (.cells #[.int .i64 d.no, .int .i64 d.at_, .string d.source, .slice d.ia d.ids.length d.ic, .slice d.fa d.fields.length d.fc] 53)))
        have hl5 := Frz.le_add (o := (.cells #[.int .i64 d.no, .int .i64 d.at_, .string d.source, .slice d.ia d.ids.length d.ic, .slice d.fa d.fields.length d.fc] 53 (0, 0))) (D4.out.lw.fin.none_ (Nat.le_refl W4.heap.size))
        have HTF := Lib.hid (refTchs_any (H2.add W4.heap.size (.cells #[.int .i64 d.no, .int .i64 d.at_, .string d.source, .slice d.ia d.ids.length d.ic, .slice d.fa d.fields.length d.fc] 53 (0, 0))) ((HU.out.le HLE2.out).le hl5) ((HM.out.le HLE2.out).le hl5) (some ⟨W4.heap.size, 0, none⟩) 1 [d] _ HIN5.out ⟨row_one (Frz.add_at _ _ _), fun t ht => by simp at ht; subst ht; exact ⟨HD.out.ids.le hl5, HD.out.fds.le hl5⟩⟩ (by simp) (fun t ht => by simp at ht; subst ht; exact HD.out.sz))
        clear hl5 HIN5
        go_wp2_with fail
        refine HTF.out.mono ?_
        rintro e W6 ⟨ze, rfl, hze, hb6⟩
        have D6 := Lib.hid (D5.out.call hb6)
        have hb46 := HNW.out.trans (hb6.mono HNW.out.size)
        have y0 := lift_cell z0 _ hb46
        have y1 := lift_cell z1 _ hb46
        have y2 := lift_cell z2 _ hb46
        have y3 := lift_cell z3 _ hb46
        have y4 := lift_cell z4 _ hb46
        have HZE := Lib.hid hze
        clear hb6 hb46 hze z0 z1 z2 z3 z4 D4 D5 HNW HTF
        by_cases g1 : ze = 0
        rotate_left
        · have k1 : (ze == 0) = false := by simpa using g1
          clear g1
          go_wp2_with fail
          go_roundw
          case rel => exact ⟨i + 1, ts, H2, by omega, by go_num, HLE2, HOLD2, D6.out.more (by omega), by omega, HOK2⟩
          case measure => simp [intOf]; omega
        have k1 : (ze == 0) = true := by simpa using g1
        have HT1 := Lib.hid (tchs_one (HZE.out g1))
        clear g1 HZE
        by_cases g2 : d.no = no
        rotate_left
        · have k2 : (d.no == no) = false := by simpa using g2
          clear g2
          go_wp2_with fail
          go_roundw
          case rel => exact ⟨i + 1, ts, H2, by omega, by go_num, HLE2, HOLD2, D6.out.more (by omega), by omega, HOK2⟩
          case measure => simp [intOf]; omega
        · have k2 : (d.no == no) = true := by simpa using g2
          have HOK3 := Lib.hid (HOK2.out.snoc HD.out HT1.out (by rw [g2]; exact hn1))
          have hsz : ts.length ≤ 4294967296 := by omega
          clear g2 hn1 hpb
          generalize hv2 : Value.slice A ts.length cap = v2 at D6
          have HOr := Lib.hid D6.out.1.row
          have HST := Lib.hid (fun v' W' o g1 at1 => D6.out.app (v' := v') (W' := W') (ds' := ts ++ [d]) o g1 at1)
          have hB9 := D6.out.1.2.2.2.2
          go_wp2_with (at_builtin; refine wpList_app_at rfl _ _ 46 rfl W.heap.size 53 i0 (.agg #[.int .i64 0, .int .i64 0, .string ⟨#[]⟩, .slice none 0 0, .slice none 0 0]) 5 80 Tryz.underlying46 hi0 hz0 hz1 hz2 rfl (by decide) fTch _ ts rfl HOr.out d #[.int .i64 d.no, .int .i64 d.at_, .string d.source, .slice d.ia d.ids.length d.ic, .slice d.fa d.fields.length d.fc] 53 rfl rfl (by simp [Value.oneCell']) (by omega) (by omega) hB9 ?_; intro v1 w2 o1 g1 b1 at1; have CA := Lib.hid (HST.out v1 w2 o1 g1 at1); clear o1 g1 b1 at1 HST HOr)
          go_roundw
          case rel => exact ⟨i + 1, _, H2, by omega, by go_num, HLE2, HOLD2, CA.out.more (by omega), by simp; omega, HOK3⟩
          case measure => simp [intOf]; omega
    · have hie : i = m := by omega
      subst hie
      subst hv
      have HF : Hid (RtPost w bs K i H W (.returned (.slice A ts.length cap)) wr) := ⟨_, ts, H1, rfl, HLE.out, HOLD.out, C.out.more (by omega), HOK.out, hdl⟩
      go_wp2_with fail
      exact bodyPost_ret (by kernel_rfl) rfl HF.out
end Go.Proofs.YtbidhpgjmcedaaaGreatDoor

/- What a stream makes: right rules, out of a contract of what makes rules. -/
namespace Go.Proofs.YtbidhpgjmcedaaaGreatDoor
set_option linter.unusedVariables false
open Go.RowKit
def JrPost (w : World) (bs K : Nat) (H : Frz) (W : World) (e : Ending) (W' : World) : Prop := ∃ (r : RulD) (H' : Frz), e = .returned (.agg #[.slice r.ka r.kinds.length r.kc, .int .i64 r.most, .slice r.wa r.weaks.length r.wc, .slice r.sa r.surs.length r.sc]) ∧ H.Le H' ∧ (∀ b, b < W.heap.size → H' b = H b) ∧ Lw w bs (K + 2000) H' W' ∧ W.grownBy W' (some bs) ∧ RulIn H' r ∧ SzR r
def RrPost (w : World) (bs K : Nat) (H : Frz) (W : World) (e : Ending) (W' : World) : Prop := ∃ (r : RulD) (H' : Frz), e = .returned (.agg #[.slice r.ka r.kinds.length r.kc, .int .i64 r.most, .slice r.wa r.weaks.length r.wc, .slice r.sa r.surs.length r.sc]) ∧ H.Le H' ∧ (∀ b, b < W.heap.size → H' b = H b) ∧ Lw w bs (K + 10000) H' W' ∧ W.grownBy W' (some bs) ∧ RulIn H' r ∧ SzR r ∧ rulE r = 0
theorem rw_12 {H : Frz} {q : Nat} (h : H q = some (.cells #[.int .i64 1, .int .i64 2] 3 (0, 0))) : Rw H (some ⟨q, 0, none⟩) 1 fI [1, 2] := by
  intro i hi
  have : i = 0 ∨ i = 1 := by simp at hi; omega
  rcases this with rfl | rfl
  · refine ⟨q, 0, rfl, fun j hj => ?_⟩
    have : j = 0 := by omega
    subst this
    simp [Frz.cell?, h, fI]
  · refine ⟨q, 0, rfl, fun j hj => ?_⟩
    have : j = 0 := by omega
    subst this
    simp [Frz.cell?, h, fI]
def lastRul (q : Nat) : RulD := { ka := some ⟨q, 0, none⟩, kc := 2, kinds := [1, 2], most := 3, wa := none, wc := 0, weaks := [], sa := none, sc := 0, surs := [] }
theorem last_zero (q : Nat) : rulE (lastRul q) = 0 := by kernel_rfl
theorem last_sz (q : Nat) : SzR (lastRul q) := ⟨by show (2 : Nat) ≤ _; omega, by show (0 : Nat) ≤ _; omega, (fun x hx => by cases hx), by show (0 : Nat) ≤ _; omega, (fun x hx => by cases hx)⟩
theorem last_in {H : Frz} {q : Nat} (h : H q = some (.cells #[.int .i64 1, .int .i64 2] 3 (0, 0))) : RulIn H (lastRul q) := ⟨rw_12 h, Rw.nil, Rw.nil, (fun x hx => by cases hx)⟩
/-- The block of the result, ahead of it. -/
structure RR0 (w : World) (bs K : Nat) (H0 H : Frz) (W00 : World) (rb : Nat) (wr : World) : Prop where
  lw : Lw w bs K H wr
  res : wr.heap[rb]? = some (.cells #[.slice none 0 0, .int .i64 0, .slice none 0 0, .slice none 0 0] 44 (0, 0))
  br : bs < rb
  hr : H rb = none
  gr : W00.grownBy wr (some bs)
  le : H0.Le H
  old : ∀ b, b < W00.heap.size → H b = H0 b
  lr : W00.heap.size ≤ rb
section
variable {w wr W' W00 : World} {bs K K' rb : Nat} {H0 H H' : Frz}
theorem RR0.more (h : RR0 w bs K H0 H W00 rb wr) (hK : K ≤ K') : RR0 w bs K' H0 H W00 rb wr := ⟨h.lw.more hK, h.res, h.br, h.hr, h.gr, h.le, h.old, h.lr⟩
theorem RR0.call (h : RR0 w bs K H0 H W00 rb wr) (hb : Below wr.heap.size wr W') : RR0 w bs K H0 H W00 rb W' :=
  ⟨h.lw.call hb, (hb.block _ (lt_of_heap h.res)).trans h.res, h.br, h.hr, vm_then h.gr (vm_below hb), h.le, h.old, h.lr⟩
theorem RR0.laid (h : RR0 w bs K H0 H W00 rb wr) (L : Lw w bs K' H' W') (g : wr.grownBy W' (some bs)) (hl : H.Le H') (ho : ∀ b, b < wr.heap.size → H' b = H b) : RR0 w bs K' H0 H' W00 rb W' :=
  ⟨L, (g.block _ (lt_of_heap h.res) (fun e => by injection e with e; have := h.br; omega)).trans h.res, h.br, (ho _ (lt_of_heap h.res)).trans h.hr, vm_then h.gr g, h.le.trans hl, fun b hb => (ho b (Nat.lt_of_lt_of_le hb h.gr.size)).trans (h.old b hb), h.lr⟩
theorem RR0.put (h : RR0 w bs K H0 H W00 rb wr) (o : Obj) : RR0 w bs K H0 (H.add wr.heap.size o) W00 rb (wr.alloc o) ∧ (H.add wr.heap.size o) wr.heap.size = some o := by
  have hl := Frz.le_add (o := o) (h.lw.fin.none_ (Nat.le_refl _))
  have hs := h.gr.size
  have hr := lt_of_heap h.res
  refine ⟨⟨(h.lw.alloc o).keep (heap_at rfl) (by have := h.lw.lt; omega), (h.call (new1 o)).res, h.br, ?_, (h.call (new1 o)).gr, h.le.trans hl, fun b hb => ?_, h.lr⟩, Frz.add_at _ _ _⟩
  · rw [Frz.add_other (by omega)]; exact h.hr
  · rw [Frz.add_other (by omega)]; exact h.old b hb
theorem RR0.done (h : RR0 w bs K H0 H W00 rb wr) (hK : K ≤ K') (v0 v1 v2 v3 : Value) : Lw w bs K' H ((((wr.setCell ⟨rb, 0, none⟩ v0).setCell ⟨rb, 1, none⟩ v1).setCell ⟨rb, 2, none⟩ v2).setCell ⟨rb, 3, none⟩ v3) ∧ W00.grownBy ((((wr.setCell ⟨rb, 0, none⟩ v0).setCell ⟨rb, 1, none⟩ v1).setCell ⟨rb, 2, none⟩ v2).setCell ⟨rb, 3, none⟩ v3) (some bs) := by
  have hg9 := vm_setc (vm_setc (vm_setc (vm_setc (World.grownBy.refl wr (some rb)) 0 v0) 1 v1) 2 v2) 3 v3
  refine ⟨(h.lw.grown hg9 (fun q hq => by injection hq with hq; subst hq; exact ⟨h.br, h.hr⟩)).more hK, ⟨hg9.os.trans h.gr.os, hg9.tape.trans h.gr.tape, hg9.output.trans h.gr.output, Nat.le_trans h.gr.size hg9.size, fun b hb hne => ?_⟩⟩
  have := h.lr
  exact (hg9.block b (Nat.lt_of_lt_of_le hb h.gr.size) (fun e => by injection e with e; omega)).trans (h.gr.block b hb hne)
end
set_option maxHeartbeats 8000000 in
set_option maxRecDepth 100000 in
theorem Lw.rightRules_of {w W : World} {bs K : Nat} {H : Frz} (h : Lw w bs K H W) (hK : K ≤ 100000) (hP : PoolIn H) (hN : NamesIn H) (hM : MLen H)
    (hJ : ∀ (K : Nat) (H : Frz) (W : World), Lw w bs K H W → K ≤ 200000 → PoolIn H → NamesIn H → Calls Tryz.prog 78 #[.pointer (some ⟨bs, 0, none⟩)] W (JrPost w bs K H W)) :
    Calls Tryz.prog 19 #[.pointer (some ⟨bs, 0, none⟩)] W (RrPost w bs K H W) := by
  have hbs := h.lt
  have C0 : Hid (RR0 w bs K H H W W.heap.size (W.alloc (.cells #[.slice none 0 0, .int .i64 0, .slice none 0 0, .slice none 0 0] 44))) := ⟨h.alloc _, heap_at rfl, h.lt, h.fin.none_ (Nat.le_refl _), grown_alloc _ _, Frz.Le.refl _, fun _ _ => rfl, Nat.le_refl _⟩
  have HP := Lib.hid hP
  have HN := Lib.hid hN
  have HM := Lib.hid hM
  have HJ := Lib.hid hJ
  clear h hP hN hM hJ
  go_enter Tryz.func19, Tryz.ntmps19
  go_upto_region 1 with (fail)
  generalize W.alloc (.cells #[.slice none 0 0, .int .i64 0, .slice none 0 0, .slice none 0 0] 44) = W1 at C0 ⊢
  go_wp2_with fail
  go_loopw [4] (fun t wr => ∃ (i : Nat) (H' : Frz), i ≤ 5 ∧ t = .int .i64 i ∧ Hid (RR0 w bs (K + 2000 * i) H H' W W.heap.size wr)) (fun t _ => 5 - (intOf t).toNat)
  case atStart => exact ⟨0, H, by omega, rfl, C0⟩
  case round =>
    obtain ⟨i, H1, hi, rfl, C⟩ := hrel
    clear C0
    by_cases hlt : i < 5
    · have di : decide ((i : Int) < 5) = true := by simp; omega
      go_wp2_with fail
      refine (HJ.out _ H1 wr C.out.lw (by omega) (HP.out.le C.out.le) (HN.out.le C.out.le)).mono ?_
      rintro e W2 ⟨r, H2, rfl, le2, old2, L2, g2, hri, hsz⟩
      have D2 := Lib.hid (C.out.laid L2 g2 le2 old2)
      have HRI := Lib.hid hri
      have HSZ := Lib.hid hsz
      clear C le2 old2 L2 g2 hri hsz
      have D3 := Lib.hid (D2.out.call (new1 (.cells #[.slice r.ka r.kinds.length r.kc, .int .i64 r.most, .slice r.wa r.weaks.length r.wc, .slice r.sa r.surs.length r.sc] 44)))
      have z0 : (W2.alloc (.cells #[.slice r.ka r.kinds.length r.kc, .int .i64 r.most, .slice r.wa r.weaks.length r.wc, .slice r.sa r.surs.length r.sc] 44)).cell? ⟨W2.heap.size, 0, none⟩ = some (.slice r.ka r.kinds.length r.kc) := newc 0 rfl
      have z1 : (W2.alloc (.cells #[.slice r.ka r.kinds.length r.kc, .int .i64 r.most, .slice r.wa r.weaks.length r.wc, .slice r.sa r.surs.length r.sc] 44)).cell? ⟨W2.heap.size, 1, none⟩ = some (.int .i64 r.most) := newc 1 rfl
      have z2 : (W2.alloc (.cells #[.slice r.ka r.kinds.length r.kc, .int .i64 r.most, .slice r.wa r.weaks.length r.wc, .slice r.sa r.surs.length r.sc] 44)).cell? ⟨W2.heap.size, 2, none⟩ = some (.slice r.wa r.weaks.length r.wc) := newc 2 rfl
      have z3 : (W2.alloc (.cells #[.slice r.ka r.kinds.length r.kc, .int .i64 r.most, .slice r.wa r.weaks.length r.wc, .slice r.sa r.surs.length r.sc] 44)).cell? ⟨W2.heap.size, 3, none⟩ = some (.slice r.sa r.surs.length r.sc) := newc 3 rfl
      clear D2
      go_upto_region 4 with (fail)
      generalize W2.alloc (.cells #[.slice r.ka r.kinds.length r.kc, .int .i64 r.most, .slice r.wa r.weaks.length r.wc, .slice r.sa r.surs.length r.sc] 44) = W3 at *
      generalize W2.heap.size = mb at *
      have HRF := Lib.hid (refRul_any H2 (HM.out.le D3.out.le) r W3 D3.out.lw.fin HRI.out HSZ.out)
      go_wp2_with fail
      refine HRF.out.mono ?_
      rintro e W4 ⟨ze, rfl, hze, hb4⟩
      have D4 := Lib.hid (D3.out.call hb4)
      have y0 := lift_cell z0 _ hb4
      have y1 := lift_cell z1 _ hb4
      have y2 := lift_cell z2 _ hb4
      have y3 := lift_cell z3 _ hb4
      have HZE := Lib.hid hze
      clear hb4 hze z0 z1 z2 z3 D3 HRF
      by_cases g1 : ze = 0
      · have k1 : (ze == 0) = true := by simpa using g1
        have HR0 := Lib.hid (HZE.out g1)
        clear g1
        have hkr := D4.out.res
        have rr0 := cell_h hkr 0 (v := .slice none 0 0) rfl
        have rf0 := froz_h hkr 0
        have rr1 := cell_h hkr 1 (v := .int .i64 0) rfl
        have rf1 := froz_h hkr 1
        have rr2 := cell_h hkr 2 (v := .slice none 0 0) rfl
        have rf2 := froz_h hkr 2
        have rr3 := cell_h hkr 3 (v := .slice none 0 0) rfl
        have rf3 := froz_h hkr 3
        go_wp2_with fail
        (try simp only [Exit.inBlock, Exit.then])
        have hh9 := ms_set4 hkr (.slice r.ka r.kinds.length r.kc) (.int .i64 r.most) (.slice r.wa r.weaks.length r.wc) (.slice r.sa r.surs.length r.sc)
        refine bodyPost_ret (results_cell_row rfl _ _ W.heap.size 44 _ (0, 0) _ rfl hh9 Tryz.underlying44 rfl (by kernel_rfl)) rfl ?_
        obtain ⟨hlw, hgw⟩ := D4.out.done (K' := K + 10000) (by omega) (.slice r.ka r.kinds.length r.kc) (.int .i64 r.most) (.slice r.wa r.weaks.length r.wc) (.slice r.sa r.surs.length r.sc)
        exact ⟨r, H2, rfl, D4.out.le, D4.out.old, hlw, hgw, HRI.out, HSZ.out, HR0.out⟩
      · have k1 : (ze == 0) = false := by simpa using g1
        clear g1
        go_wp2_with fail
        go_roundw
        case rel => exact ⟨i + 1, H2, by omega, by go_num, D4.out.more (by omega)⟩
        case measure => simp [intOf]; omega
    · have hie : i = 5 := by omega
      subst hie
      obtain ⟨D2, hq⟩ := C.out.put (.cells #[.int .i64 1, .int .i64 2] 3)
      have D2 := Lib.hid D2
      have HQ := Lib.hid hq
      clear hq
      have hkr := D2.out.res
      have rr0 := cell_h hkr 0 (v := .slice none 0 0) rfl
      have rf0 := froz_h hkr 0
      have rr1 := cell_h hkr 1 (v := .int .i64 0) rfl
      have rf1 := froz_h hkr 1
      have rr2 := cell_h hkr 2 (v := .slice none 0 0) rfl
      have rf2 := froz_h hkr 2
      have rr3 := cell_h hkr 3 (v := .slice none 0 0) rfl
      have rf3 := froz_h hkr 3
      go_wp2_with fail
      (try simp only [Exit.inBlock, Exit.then])
      have hh9 := ms_set4 hkr (.slice (some ⟨wr.heap.size, 0, none⟩) 2 2) (.int .i64 3) (.slice none 0 0) (.slice none 0 0)
      refine bodyPost_ret (results_cell_row rfl _ _ W.heap.size 44 _ (0, 0) _ rfl hh9 Tryz.underlying44 rfl (by kernel_rfl)) rfl ?_
      obtain ⟨hlw, hgw⟩ := D2.out.done (K' := K + 10000) (by omega) (.slice (some ⟨wr.heap.size, 0, none⟩) 2 2) (.int .i64 3) (.slice none 0 0) (.slice none 0 0)
      exact ⟨lastRul wr.heap.size, _, rfl, D2.out.le, D2.out.old, hlw, hgw, last_in HQ.out, last_sz _, last_zero _⟩
end Go.Proofs.YtbidhpgjmcedaaaGreatDoor

/- With a touch more, nobody is parted, unless an id comes to have more than Most touches: the law, out of a contract of what makes rules. -/
namespace Go.Proofs.YtbidhpgjmcedaaaGreatDoor
set_option linter.unusedVariables false
open Go.RowKit
theorem fit_of {x : IdD} (h : idErr x.kind x.text = 0) : FitId x := by
  obtain ⟨-, -, h3, h4⟩ := norm_same h ⟨#[]⟩
  exact ⟨by omega, by omega⟩
/-- A contract of what makes rules. -/
def JoinsMake : Prop := ∀ (w : World) (bs K : Nat) (H : Frz) (W : World), Lw w bs K H W → K ≤ 200000 → PoolIn H → NamesIn H → Calls Tryz.prog 78 #[.pointer (some ⟨bs, 0, none⟩)] W (JrPost w bs K H W)
/-- What the law is told of its rules and touches. -/
structure Told (H : Frz) (A : Option Addr) (r : RulD) (ts : List TchD) : Prop where
  row : Rw H A 5 fTch ts
  inn : ∀ t ∈ ts, TcIn H t
  rul : RulIn H r
  sz : SzR r
  rz : rulE r = 0
  right : RightTs ts
  len : ts.length ≤ 100
theorem RightTs.pre {ts : List TchD} (h : RightTs ts) (k : Nat) : RightTs (ts.take k) := by
  unfold RightTs at h ⊢
  have h0 := fstErr_zero.1 h
  refine fstErr_zero.2 fun i hi => ?_
  rw [List.length_take] at hi
  have := h0 i (by omega)
  unfold tch1 at this ⊢
  rw [List.getElem?_take_of_lt (by omega)]
  have e : prevNo (ts.take k) i = prevNo ts i := by
    cases i with
    | zero => rfl
    | succ i =>
      unfold prevNo
      simp only
      rw [List.getElem?_take_of_lt (by omega)]
  rw [e]
  exact this
theorem Told.pre {H : Frz} {A : Option Addr} {r : RulD} {ts : List TchD} (h : Told H A r ts) (k : Nat) : Told H A r (ts.take k) :=
  ⟨h.row.take k, fun t ht => h.inn t (List.mem_of_mem_take ht), h.rul, h.sz, h.rz, h.right.pre k, by have := h.len; rw [List.length_take]; omega⟩
theorem Told.le {H H' : Frz} {A : Option Addr} {r : RulD} {ts : List TchD} (h : Told H A r ts) (hl : H.Le H') : Told H' A r ts := ⟨h.row.le hl, fun t ht => (h.inn t ht).le hl, h.rul.le hl, h.sz, h.rz, h.right, h.len⟩
theorem Told.both {H : Frz} {A : Option Addr} {r : RulD} {ts : List TchD} (h : Told H A r ts) : bothE r ts = 0 := by
  unfold bothE
  rw [if_neg (by rw [h.rz]; simp)]
  exact h.right.all (by have := h.len; omega)
theorem Told.rising {H : Frz} {A : Option Addr} {r : RulD} {ts : List TchD} (h : Told H A r ts) : ts.Pairwise fun a b => a.no < b.no := (tchs_right (h.right.all (by have := h.len; omega))).2.2
/-- Persons of right touches. -/
theorem persons_told (H : Frz) (hU : UtfIn H) (hM : MLen H) (A : Option Addr) (cap : Nat) (r : RulD) (ts : List TchD) (h : Told H A r ts) (w : World) (hH : H.In w) :
    Calls Tryz.prog 22 #[.agg #[.slice r.ka r.kinds.length r.kc, .int .i64 r.most, .slice r.wa r.weaks.length r.wc, .slice r.sa r.surs.length r.sc], .slice A ts.length cap] w fun e w' => Below w.heap.size w w' ∧ ∃ (A' : Option Addr) (c : Nat) (ps : List PerD) (rr : List Nat), e = .returned (.tuple #[.slice A' ps.length c, .int .i64 0]) ∧ Uf (Share (JD r ts) ts) rr ∧ PerIn (wholeH w') A' ps ∧ PersQ (JD r ts) ts (repN rr) ps := by
  have ht := (tchs_right (h.right.all (by have := h.len; omega))).2.1
  refine (Persons_any H hU hM r A cap ts w hH h.rul ⟨h.row, fun t hx => ⟨(h.inn t hx).ids, (h.inn t hx).fds⟩⟩ h.sz (by have := h.len; omega) (fun t hx => (h.inn t hx).sz) (fun t hx x hxx => fit_of ((ht t hx).idE x hxx))).mono ?_
  rintro e w' ⟨hb, ho⟩
  rcases ho with ⟨g, -⟩ | ⟨-, A', c, ps, rr, he, hu, hp, hq⟩
  · exact absurd h.both g
  · exact ⟨hb, A', c, ps, rr, he, hu, hp, hq⟩
end Go.Proofs.YtbidhpgjmcedaaaGreatDoor

/- With a touch more, nobody is parted, unless an id comes to have more than Most touches: the law, out of a contract of what makes rules. -/
namespace Go.Proofs.YtbidhpgjmcedaaaGreatDoor
set_option linter.unusedVariables false
open Go.RowKit
theorem pers_sz {J : IdD → Bool} {ts : List TchD} {rep : Nat → Nat} {ps : List PerD} (hq : PersQ J ts rep ps) (hl : ts.length ≤ 100) : ps.length ≤ 1000000 ∧ ∀ p ∈ ps, p.nos.length ≤ 1000000 := by
  have h1 := rts_le rep ts.length
  refine ⟨by rw [hq.len]; omega, fun p hp => ?_⟩
  obtain ⟨k, hk, rfl⟩ := List.getElem_of_mem hp
  have hkr : k < (rts rep ts.length).length := by rw [← hq.len]; exact hk
  have := cls_le rep ts.length (rts rep ts.length)[k]
  rw [hq.nos k hkr hk, List.length_map]
  omega
set_option maxHeartbeats 8000000 in
set_option maxRecDepth 100000 in
theorem touchesOnlyJoin_of (hJ : JoinsMake) (a0 : Option Addr) (len0 cap0 : Nat) (z0 : List Int) (w : World) (w0 : IsRow .i64 w a0 len0 cap0 z0) (hG : GlobP w) :
    Calls Tryz.prog 4 #[.slice a0 len0 cap0] w fun e w' => e = .returned (.bool true) ∧ Below w.heap.size w w' := by
  have L := Lw.whole w0
  have HPE := Lib.hid (fun W hW => people_any (memH w) hG.utf hG.mlen W hW)
  have HG := Lib.hid hG
  have HJ := Lib.hid hJ
  clear hG w0 hJ
  go_enter Tryz.func4, Tryz.ntmps4
  go_wp2_with fail
  refine (L.rightRules_of (by omega) HG.out.pool HG.out.names HG.out.mlen (fun K H W h1 h2 h3 h4 => HJ.out _ _ K H W h1 h2 h3 h4)).mono ?_
  rintro e W1 ⟨r, H1, rfl, le1, -, L1, -, hri, hsz, hr0⟩
  have HL1 := Lib.hid L1
  have HLE1 := Lib.hid le1
  have HRI := Lib.hid hri
  have HSZ := Lib.hid hsz
  have HR0 := Lib.hid hr0
  clear L L1 le1 hri hsz hr0 HJ
  go_wp2_with fail
  refine (HL1.out.range 1 10 (by omega) (by omega) (by omega) (by omega)).mono ?_
  rintro e W2 ⟨n, rfl, n0, n1, Lq, -, -⟩
  have HL2 := Lib.hid Lq
  clear Lq HL1
  obtain ⟨m, rfl⟩ := Int.eq_ofNat_of_zero_le (show (0 : Int) ≤ n by omega)
  go_wp2_with fail
  refine (HL2.out.rightTouches (by omega) (HG.out.pool.le HLE1.out) (HG.out.names.le HLE1.out) (HG.out.utf.le HLE1.out) (HG.out.mlen.le HLE1.out) m (by omega)).mono ?_
  rintro e W3 ⟨v, ts, H2, rfl, le2, -, C3, hok, hlen⟩
  obtain ⟨A, cap, H3, rfl, hcap, le3, L3, R3, -⟩ := C3.1.frozen2
  have HT : Hid (Told H3 A r ts) := ⟨R3, fun t ht => (hok.inn t ht).le le3, (HRI.out.le le2).le le3, HSZ.out, HR0.out, hok.right, by omega⟩
  have HLE3 := Lib.hid (HLE1.out.trans (le2.trans le3))
  have HIN3 := Lib.hid L3.fin
  have HB3 := Lib.hid L3.bel
  have hln := HT.out.len
  clear C3 L3 R3 le2 le3 hok HL2 HRI HSZ HR0 HLE1
  have HU3 := Lib.hid (HG.out.utf.le HLE3.out)
  have HM3 := Lib.hid (HG.out.mlen.le HLE3.out)
  have HPE3 : Hid (∀ W, H3.In W → Calls Tryz.prog 15 #[] W fun e w' => e = .returned (.bool true) ∧ Below W.heap.size W w') := fun W hW => HPE.out W (hW.le HLE3.out)
  clear HPE HG HLE3
  have HNW := Lib.hid (new1 (w := W3) (.cells #[.slice r.ka r.kinds.length r.kc, .int .i64 r.most, .slice r.wa r.weaks.length r.wc, .slice r.sa r.surs.length r.sc] 44))
  have z0 : (W3.alloc (.cells #[.slice r.ka r.kinds.length r.kc, .int .i64 r.most, .slice r.wa r.weaks.length r.wc, .slice r.sa r.surs.length r.sc] 44)).cell? ⟨W3.heap.size, 0, none⟩ = some (.slice r.ka r.kinds.length r.kc) := newc 0 rfl
  have z1 : (W3.alloc (.cells #[.slice r.ka r.kinds.length r.kc, .int .i64 r.most, .slice r.wa r.weaks.length r.wc, .slice r.sa r.surs.length r.sc] 44)).cell? ⟨W3.heap.size, 1, none⟩ = some (.int .i64 r.most) := newc 1 rfl
  have z2 : (W3.alloc (.cells #[.slice r.ka r.kinds.length r.kc, .int .i64 r.most, .slice r.wa r.weaks.length r.wc, .slice r.sa r.surs.length r.sc] 44)).cell? ⟨W3.heap.size, 2, none⟩ = some (.slice r.wa r.weaks.length r.wc) := newc 2 rfl
  have z3 : (W3.alloc (.cells #[.slice r.ka r.kinds.length r.kc, .int .i64 r.most, .slice r.wa r.weaks.length r.wc, .slice r.sa r.surs.length r.sc] 44)).cell? ⟨W3.heap.size, 3, none⟩ = some (.slice r.sa r.surs.length r.sc) := newc 3 rfl
  go_upto_region 3 with (fail)
  generalize W3.alloc (.cells #[.slice r.ka r.kinds.length r.kc, .int .i64 r.most, .slice r.wa r.weaks.length r.wc, .slice r.sa r.surs.length r.sc] 44) = W4 at *
  have HIN4 := Lib.hid (HIN3.out.below HNW.out)
  have HB4 := Lib.hid (HB3.out.trans (HNW.out.mono HB3.out.size))
  generalize W3.heap.size = rb at *
  clear HNW HIN3 HB3
  obtain ⟨k, hk⟩ : ∃ k, ts.length - 1 = k := ⟨_, rfl⟩
  have hkl : (ts.take k).length = k := by rw [List.length_take]; omega
  have HT1 := Lib.hid (HT.out.pre k)
  have HP1 := Lib.hid (fun W hW => persons_told H3 HU3.out HM3.out A cap r (ts.take k) HT1.out W hW)
  rw [hkl] at HP1
  have HP2 := Lib.hid (fun W hW => persons_told H3 HU3.out HM3.out A cap r ts HT.out W hW)
  have hkc : k ≤ cap := by omega
  have HK := Lib.hid hk
  have a1 : IntKind.i64.wrap ((ts.length : Int) - 1) = (ts.length : Int) - 1 := IntWalk.i64_in _ (by omega)
  have a2 : max (0 : Int) ((ts.length : Int) - 1) = (k : Int) := by omega
  have a3 : (0 : Int) ≤ (k : Int) := by omega
  have a4 : (k : Int) ≤ cap := by omega
  clear hkl hk
  go_upto_region 4 with (fail)
  clear a1 a2 a3 a4
  go_wp2_with fail
  refine (HP1.out W4 HIN4.out).mono ?_
  rintro e W5 ⟨hb5, Ap, cp, ps, rr, rfl, hu1, hp1, hq1⟩
  have y0 := lift_cell z0 _ hb5
  have y1 := lift_cell z1 _ hb5
  have y2 := lift_cell z2 _ hb5
  have y3 := lift_cell z3 _ hb5
  have HIN5 := Lib.hid (HIN4.out.below hb5)
  have HB5 := Lib.hid (HB4.out.trans (hb5.mono HB4.out.size))
  have HU1 := Lib.hid hu1
  have HQ1 := Lib.hid hq1
  clear z0 z1 z2 z3 hb5 hu1 hq1 HP1 HIN4 HB4
  go_wp2_with fail
  refine (HP2.out W5 HIN5.out).mono ?_
  rintro e W6 ⟨hb6, Aq, cq, qs, rr2, rfl, hu2, hp2, hq2⟩
  have z1 := lift_cell y1 _ hb6
  have HIN6 := Lib.hid (HIN5.out.below hb6)
  have HB6 := Lib.hid (HB5.out.trans (hb6.mono HB5.out.size))
  have HU2 := Lib.hid hu2
  have HQ2 := Lib.hid hq2
  have hl56 : (wholeH W5).Le (wholeH W6) := fun b o h => (hb6.block b (by have := (wholeH_in W5) b o h; exact lt_of_heap this)).trans ((wholeH_in W5) b o h)
  have HW6 : Hid ((wholeH W6).In W6) := wholeH_in W6
  have hl36 : H3.Le (wholeH W6) := fun b o h => HIN6.out b o h
  have HPA : Hid (PerIn (wholeH W6) Ap ps) := ⟨hp1.1.le hl56, fun p hp => ⟨(hp1.2 p hp).1.le hl56, (hp1.2 p hp).2.le hl56⟩⟩
  have HQA := Lib.hid hp2
  have HT6 := Lib.hid (HT.out.le hl36)
  have HPE6 : Hid (∀ W, (wholeH W6).In W → Calls Tryz.prog 15 #[] W fun e w' => e = .returned (.bool true) ∧ Below W.heap.size W w') := fun W hW => HPE3.out W (hW.le hl36)
  generalize wholeH W6 = H6 at *
  clear y0 y1 y2 y3 hb6 hu2 hq2 HP2 HIN5 HB5 hl56 hl36 hp1 hp2 HIN6 HPE3 HU3 HM3 HT HT1
  by_cases hem : ts.length = 0
  · have k0 : ((ts.length : Int) == 0) = true := by simp [hem]
    clear hem
    go_wp2_with fail
    refine (HPE6.out _ HW6.out).mono ?_
    rintro e W7 ⟨rfl, hb7⟩
    have HF := Lib.hid (HB6.out.trans (hb7.mono HB6.out.size))
    clear hb7
    go_wp2_with fail
    exact bodyPost_ret (by kernel_rfl) rfl ⟨rfl, HF.out⟩
  have k0 : ((ts.length : Int) == 0) = false := by simp; exact fun c => hem (by simp [c])
  have hkl : k < ts.length := by have := HK.out; omega
  have hts : ts = ts.take k ++ [ts[k]] := by
    have this := List.take_append_getElem hkl
    have e : k + 1 = ts.length := by have := HK.out; omega
    calc ts = ts.take (k + 1) := by rw [e, List.take_length]
      _ = ts.take k ++ [ts[k]] := this.symm
  have HLAW : Hid ((∀ x, hasId ts[k].ids x = true → (manyId ts x : Int) ≤ r.most) → ∀ (i j : Nat) (hi : i < k) (hj : j < k), anyF (togB (ts[i]'(by omega)).no (ts[j]'(by omega)).no) ps = true → anyF (togB (ts[i]'(by omega)).no (ts[j]'(by omega)).no) qs = true) := by
    intro hm i j hi hj h
    have hlk : (ts.take k).length = k := by rw [List.length_take]; omega
    have h9 := only_tog (r := r) (ts := ts.take k) (t := ts[k]) HU1.out HQ1.out (by rw [← hts]; exact HU2.out) (by rw [← hts]; exact HQ2.out) (by rw [← hts]; exact HT6.out.rising) (by rw [← hts]; exact hm) (i := i) (j := j) (by omega) (by omega)
    rw [List.getElem_take, List.getElem_take] at h9
    exact h9 h
  obtain ⟨b, off, hA, hbl, hc⟩ := HT6.out.row.at_ HW6.out hkl (by omega)
  have c3 : W6.cell? ⟨b, off + k * 5 + 3, none⟩ = some (.slice ts[k].ia ts[k].ids.length ts[k].ic) := hc 3 (by omega)
  have HTI := Lib.hid (HT6.out.inn _ (List.getElem_mem hkl))
  have hpn : Hid (ps.length ≤ 1000000 ∧ (∀ p ∈ ps, p.nos.length ≤ 1000000) ∧ qs.length ≤ 1000000 ∧ (∀ p ∈ qs, p.nos.length ≤ 1000000)) := by
    have h1 := pers_sz HQ1.out (by rw [List.length_take]; omega)
    have h2 := pers_sz HQ2.out hln
    exact ⟨h1.1, h1.2, h2.1, h2.2⟩
  have a1 : IntKind.i64.wrap ((ts.length : Int) - 1) = (k : Int) := by rw [show (ts.length : Int) - 1 = k by have := HK.out; omega]; exact IntWalk.i64_in _ (by omega)
  have a2 : (ts.length : Int) - 1 = (k : Int) := by have := HK.out; omega
  have a7 : IntKind.i64.wrap (k : Int) = (k : Int) := IntWalk.i64_in _ (by omega)
  subst hA
  clear hc hts HU1 HQ1 HU2 HQ2 hem
  generalize hx : ts[k] = t at *
  have HX := Lib.hid hx
  clear hx
  go_upto_region 11 with (fail)
  clear a1 a2 a7 k0 c3
  have Z1 := Lib.hid (lift_cell z1)
  clear z1
  go_loopw [65] (fun v wr => ∃ i : Nat, i ≤ t.ids.length ∧ v = .int .i64 i ∧ Hid (∀ x ∈ t.ids.take i, (manyId ts x : Int) ≤ r.most) ∧ Hid (Below W6.heap.size W6 wr)) (fun v _ => t.ids.length - (intOf v).toNat)
  case atStart => exact ⟨0, by omega, rfl, (fun x hx => by simp at hx), Below.refl _ _⟩
  case round =>
    obtain ⟨i, hi, rfl, hall, hb⟩ := hrel
    have hin := HW6.out.below hb.out
    by_cases hlt : i < t.ids.length
    · obtain ⟨b2, off2, hA2, hbl2, hc2⟩ := HTI.out.ids.at_ hin hlt (by omega)
      have hci0 : wr.cell? ⟨b2, off2 + i * 2, none⟩ = some (.int .i64 t.ids[i].kind) := hc2 0 (by omega)
      have hci1 : wr.cell? ⟨b2, off2 + i * 2 + 1, none⟩ = some (.string t.ids[i].text) := hc2 1 (by omega)
      have HNX : Hid ((manyId ts t.ids[i] : Int) ≤ r.most → ∀ x ∈ t.ids.take (i + 1), (manyId ts x : Int) ≤ r.most) := fun h x hx => by
        rw [List.take_succ_eq_append_getElem hlt] at hx
        rcases List.mem_append.1 hx with hx | hx
        · exact hall.out x hx
        · simp at hx; rw [hx]; exact h
      clear hc2
      obtain ⟨ia, hia⟩ : ∃ ia, t.ia = ia := ⟨_, rfl⟩
      rw [hia] at hA2 ⊢
      subst hA2
      generalize t.ids[i] = x at *
      have HNW := Lib.hid (new1 (w := wr) (.cells #[.int .i64 x.kind, .string x.text] 55))
      have z0 : (wr.alloc (.cells #[.int .i64 x.kind, .string x.text] 55)).cell? ⟨wr.heap.size, 0, none⟩ = some (.int .i64 x.kind) := newc 0 rfl
      have z1 : (wr.alloc (.cells #[.int .i64 x.kind, .string x.text] 55)).cell? ⟨wr.heap.size, 1, none⟩ = some (.string x.text) := newc 1 rfl
      go_upto_region 13 with (fail)
      generalize wr.alloc (.cells #[.int .i64 x.kind, .string x.text] 55) = W7 at *
      have HB7 := Lib.hid (hb.out.trans (HNW.out.mono hb.out.size))
      generalize wr.heap.size = xb at *
      have HLT : Hid (i + 1 ≤ t.ids.length) := by show _ ≤ _; omega
      have X0 := Lib.hid (lift_cell z0)
      have X1 := Lib.hid (lift_cell z1)
      clear hci0 hci1 hia HNW z0 z1 hin hall
      go_wp2_with fail
      go_loopw [13, 71] (fun c v w2 => ∃ q : Nat, q ≤ ts.length ∧ v = .int .i64 q ∧ c = .int .i64 (manyId (ts.take q) x) ∧ Hid (Below W7.heap.size W7 w2)) (fun _ v _ => ts.length - (intOf v).toNat)
      case atStart => exact ⟨0, by omega, rfl, by simp [manyId], Below.refl _ _⟩
      case round =>
        obtain ⟨q, hq, rfl, rfl, hb8⟩ := hrel
        have hin8 := HW6.out.below (HB7.out.trans (hb8.out.mono HB7.out.size))
        have x0 := X0.out _ hb8.out
        have x1 := X1.out _ hb8.out
        by_cases hlt2 : q < ts.length
        · obtain ⟨b3, off3, hA3, hbl3, hc⟩ := HT6.out.row.at_ hin8 hlt2 (by omega)
          simp only [Option.some.injEq, Addr.mk.injEq, and_true] at hA3
          obtain ⟨rfl, rfl⟩ := hA3
          have hcnt : manyId (ts.take (q + 1)) x = manyId (ts.take q) x + if hasId ts[q].ids x = true then 1 else 0 := by
            rw [List.take_succ_eq_append_getElem hlt2, manyId_snoc]
          have hcb : manyId (ts.take q) x ≤ q := by
            unfold manyId
            refine Nat.le_trans (List.length_filter_le _ _) ?_
            rw [List.length_take]; omega
          have HCT := Lib.hid hcnt
          have d0 : wr.cell? ⟨b, off + q * 5, none⟩ = some (.int .i64 ts[q].no) := hc 0 (by omega)
          have d1 : wr.cell? ⟨b, off + q * 5 + 1, none⟩ = some (.int .i64 ts[q].at_) := hc 1 (by omega)
          have d2 : wr.cell? ⟨b, off + q * 5 + 2, none⟩ = some (.string ts[q].source) := hc 2 (by omega)
          have d3 : wr.cell? ⟨b, off + q * 5 + 3, none⟩ = some (.slice ts[q].ia ts[q].ids.length ts[q].ic) := hc 3 (by omega)
          have d4 : wr.cell? ⟨b, off + q * 5 + 4, none⟩ = some (.slice ts[q].fa ts[q].fields.length ts[q].fc) := hc 4 (by omega)
          have HTQ := Lib.hid (HT6.out.inn _ (List.getElem_mem hlt2))
          clear hc hcnt
          generalize ts[q] = u at *
          have z0 : (wr.alloc (.cells #[.int .i64 u.no, .int .i64 u.at_, .string u.source, .slice u.ia u.ids.length u.ic, .slice u.fa u.fields.length u.fc] 53)).cell? ⟨wr.heap.size, 0, none⟩ = some (.int .i64 u.no) := newc 0 rfl
          have z1 : (wr.alloc (.cells #[.int .i64 u.no, .int .i64 u.at_, .string u.source, .slice u.ia u.ids.length u.ic, .slice u.fa u.fields.length u.fc] 53)).cell? ⟨wr.heap.size, 1, none⟩ = some (.int .i64 u.at_) := newc 1 rfl
          have z2 : (wr.alloc (.cells #[.int .i64 u.no, .int .i64 u.at_, .string u.source, .slice u.ia u.ids.length u.ic, .slice u.fa u.fields.length u.fc] 53)).cell? ⟨wr.heap.size, 2, none⟩ = some (.string u.source) := newc 2 rfl
          have z3 : (wr.alloc (.cells #[.int .i64 u.no, .int .i64 u.at_, .string u.source, .slice u.ia u.ids.length u.ic, .slice u.fa u.fields.length u.fc] 53)).cell? ⟨wr.heap.size, 3, none⟩ = some (.slice u.ia u.ids.length u.ic) := newc 3 rfl
          have z4 : (wr.alloc (.cells #[.int .i64 u.no, .int .i64 u.at_, .string u.source, .slice u.ia u.ids.length u.ic, .slice u.fa u.fields.length u.fc] 53)).cell? ⟨wr.heap.size, 4, none⟩ = some (.slice u.fa u.fields.length u.fc) := newc 4 rfl
          have HBN := Lib.hid (new1 (w := wr) (.cells #[.int .i64 u.no, .int .i64 u.at_, .string u.source, .slice u.ia u.ids.length u.ic, .slice u.fa u.fields.length u.fc] 53))
          go_upto_region 17 with (fail)
          clear d0 d1 d2 d3 d4
          generalize wr.alloc (.cells #[.int .i64 u.no, .int .i64 u.at_, .string u.source, .slice u.ia u.ids.length u.ic, .slice u.fa u.fields.length u.fc] 53) = W9 at *
          have y0 := lift_cell x0 _ HBN.out
          have y1 := lift_cell x1 _ HBN.out
          have HB9 := Lib.hid (hb8.out.trans (HBN.out.mono hb8.out.size))
          have hin9 := hin8.below HBN.out
          have HCN := Lib.hid (contains_Id H6 u.ia u.ic u.ids x W9 hin9 HTQ.out.ids (by have := HTQ.out.il; omega))
          have hun : anyF (eqId x) u.ids = hasId u.ids x := rfl
          rw [hun] at HCN
          clear hun HBN hin8 hin9 x0 x1 hb8
          generalize wr.heap.size = tb at *
          generalize hasId u.ids x = hh at HCN HCT
          go_wp2_with fail
          refine HCN.out.mono ?_
          rintro e W10 ⟨rfl, hb10⟩
          have HB10 := Lib.hid (HB9.out.trans (hb10.mono HB9.out.size))
          clear hb10 z0 z1 z2 z3 z4 y0 y1 HCN
          cases hh with
          | true =>
            have hw9 : IntKind.i64.wrap ((manyId (ts.take q) x : Int) + 1) = (manyId (ts.take q) x : Int) + 1 := IntWalk.i64_in _ (by omega)
            go_wp2_with fail
            go_roundw
            case rel => exact ⟨q + 1, by omega, by go_num, by rw [HCT.out]; simp, HB10⟩
            case measure => simp [intOf]; omega
          | false =>
            go_wp2_with fail
            go_roundw
            case rel => exact ⟨q + 1, by omega, by go_num, by rw [HCT.out]; simp, HB10⟩
            case measure => simp [intOf]; omega
        · have hie : q = ts.length := by omega
          subst hie
          rw [List.take_length]
          have HB9 := Lib.hid (HB7.out.trans (hb8.out.mono HB7.out.size))
          have y9 := Z1.out _ HB9.out
          have HB9' := Lib.hid (HB6.out.trans (HB9.out.mono HB6.out.size))
          have hin9 := hin8
          clear hb8 hin8 x0 x1
          by_cases g : r.most < (manyId ts x : Int)
          · have kg : decide (r.most < (manyId ts x : Int)) = true := by simpa using g
            clear g
            go_wp2_with fail
            refine (HPE6.out _ hin9).mono ?_
            rintro e W10 ⟨rfl, hb10⟩
            have HF := Lib.hid (HB9'.out.trans (hb10.mono HB9'.out.size))
            clear hb10
            go_wp2_with fail
            exact bodyPost_ret (by kernel_rfl) rfl ⟨rfl, HF.out⟩
          · have kg : decide (r.most < (manyId ts x : Int)) = false := by simpa using g
            have hnx := Lib.hid (HNX.out (by omega))
            clear g
            have hw9 : IntKind.i64.wrap ((i : Int) + 1) = (i : Int) + 1 := IntWalk.i64_in _ (by have h5 := HLT.out; have h6 := HTI.out.il; omega)
            go_wp2_with fail
            go_roundw
            case rel => exact ⟨i + 1, HLT.out, by go_num, hnx, HB9⟩
            case measure => have h5 := HLT.out; simp [intOf]; omega
    · have hie : i = t.ids.length := by omega
      subst hie
      have HJOIN := Lib.hid (HLAW.out (fun x hx => hall.out x (by rw [List.take_length]; exact hasId_iff.1 hx)))
      have HBX := Lib.hid (HB6.out.trans (hb.out.mono HB6.out.size))
      clear HLAW hall Z1 hb HTI HX
      have HW8 := Lib.hid hin
      clear hin hlt hi
      generalize wr = W8 at *
      go_wp2_with fail
      go_loopw [90] (fun v w2 => ∃ i : Nat, i ≤ k ∧ v = .int .i64 i ∧ Hid (Below W8.heap.size W8 w2)) (fun v _ => k - (intOf v).toNat)
      case atStart => exact ⟨0, by omega, rfl, Below.refl _ _⟩
      case round =>
        obtain ⟨i, hi, rfl, hb9⟩ := hrel
        have hin9 := HW8.out.below hb9.out
        by_cases hlt : i < k
        · obtain ⟨b3, off3, hA3, hbl3, hc⟩ := HT6.out.row.at_ hin9 (show i < ts.length by omega) (by omega)
          simp only [Option.some.injEq, Addr.mk.injEq, and_true] at hA3
          obtain ⟨rfl, rfl⟩ := hA3
          have d0 : wr.cell? ⟨b, off + i * 5, none⟩ = some (.int .i64 ts[i].no) := hc 0 (by omega)
          have d1 : wr.cell? ⟨b, off + i * 5 + 1, none⟩ = some (.int .i64 ts[i].at_) := hc 1 (by omega)
          have d2 : wr.cell? ⟨b, off + i * 5 + 2, none⟩ = some (.string ts[i].source) := hc 2 (by omega)
          have d3 : wr.cell? ⟨b, off + i * 5 + 3, none⟩ = some (.slice ts[i].ia ts[i].ids.length ts[i].ic) := hc 3 (by omega)
          have d4 : wr.cell? ⟨b, off + i * 5 + 4, none⟩ = some (.slice ts[i].fa ts[i].fields.length ts[i].fc) := hc 4 (by omega)
          have hi0 : i < ts.length := by omega
          have HJ2 : Hid (∀ (j : Nat) (hj : j < k), anyF (togB (ts[i]'hi0).no (ts[j]'(by omega)).no) ps = true → anyF (togB (ts[i]'hi0).no (ts[j]'(by omega)).no) qs = true) := fun j hj => HJOIN.out i j hlt hj
          clear hc
          generalize ts[i] = u at *
          have z0 : (wr.alloc (.cells #[.int .i64 u.no, .int .i64 u.at_, .string u.source, .slice u.ia u.ids.length u.ic, .slice u.fa u.fields.length u.fc] 53)).cell? ⟨wr.heap.size, 0, none⟩ = some (.int .i64 u.no) := newc 0 rfl
          have z1 : (wr.alloc (.cells #[.int .i64 u.no, .int .i64 u.at_, .string u.source, .slice u.ia u.ids.length u.ic, .slice u.fa u.fields.length u.fc] 53)).cell? ⟨wr.heap.size, 1, none⟩ = some (.int .i64 u.at_) := newc 1 rfl
          have z2 : (wr.alloc (.cells #[.int .i64 u.no, .int .i64 u.at_, .string u.source, .slice u.ia u.ids.length u.ic, .slice u.fa u.fields.length u.fc] 53)).cell? ⟨wr.heap.size, 2, none⟩ = some (.string u.source) := newc 2 rfl
          have z3 : (wr.alloc (.cells #[.int .i64 u.no, .int .i64 u.at_, .string u.source, .slice u.ia u.ids.length u.ic, .slice u.fa u.fields.length u.fc] 53)).cell? ⟨wr.heap.size, 3, none⟩ = some (.slice u.ia u.ids.length u.ic) := newc 3 rfl
          have z4 : (wr.alloc (.cells #[.int .i64 u.no, .int .i64 u.at_, .string u.source, .slice u.ia u.ids.length u.ic, .slice u.fa u.fields.length u.fc] 53)).cell? ⟨wr.heap.size, 4, none⟩ = some (.slice u.fa u.fields.length u.fc) := newc 4 rfl
          have HBN := Lib.hid (new1 (w := wr) (.cells #[.int .i64 u.no, .int .i64 u.at_, .string u.source, .slice u.ia u.ids.length u.ic, .slice u.fa u.fields.length u.fc] 53))
          go_upto_region 26 with (fail)
          clear d0 d1 d2 d3 d4
          generalize wr.alloc (.cells #[.int .i64 u.no, .int .i64 u.at_, .string u.source, .slice u.ia u.ids.length u.ic, .slice u.fa u.fields.length u.fc] 53) = W9 at *
          have HB9 := Lib.hid (hb9.out.trans (HBN.out.mono hb9.out.size))
          have HW9 := Lib.hid (hin9.below HBN.out)
          have HLT : Hid (i + 1 ≤ k) := hlt
          have Z0 := Lib.hid (lift_cell z0)
          clear HBN hin9 hb9 z0 z1 z2 z3 z4
          generalize wr.heap.size = ub at *
          go_wp2_with fail
          go_loopw [96] (fun v w2 => ∃ j : Nat, j ≤ k ∧ v = .int .i64 j ∧ Hid (Below W9.heap.size W9 w2)) (fun v _ => k - (intOf v).toNat)
          case atStart => exact ⟨0, by omega, rfl, Below.refl _ _⟩
          case round =>
            obtain ⟨j, hj, rfl, hb10⟩ := hrel
            have hin10 := HW9.out.below hb10.out
            have x0 := Z0.out _ hb10.out
            by_cases hlt2 : j < k
            · obtain ⟨b3, off3, hA3, hbl3, hc⟩ := HT6.out.row.at_ hin10 (show j < ts.length by omega) (by omega)
              simp only [Option.some.injEq, Addr.mk.injEq, and_true] at hA3
              obtain ⟨rfl, rfl⟩ := hA3
              have d0 : wr.cell? ⟨b, off + j * 5, none⟩ = some (.int .i64 ts[j].no) := hc 0 (by omega)
              have d1 : wr.cell? ⟨b, off + j * 5 + 1, none⟩ = some (.int .i64 ts[j].at_) := hc 1 (by omega)
              have d2 : wr.cell? ⟨b, off + j * 5 + 2, none⟩ = some (.string ts[j].source) := hc 2 (by omega)
              have d3 : wr.cell? ⟨b, off + j * 5 + 3, none⟩ = some (.slice ts[j].ia ts[j].ids.length ts[j].ic) := hc 3 (by omega)
              have d4 : wr.cell? ⟨b, off + j * 5 + 4, none⟩ = some (.slice ts[j].fa ts[j].fields.length ts[j].fc) := hc 4 (by omega)
              have HJ3 := Lib.hid (HJ2.out j hlt2)
              clear hc
              generalize ts[j] = v at *
              have z0 : (wr.alloc (.cells #[.int .i64 v.no, .int .i64 v.at_, .string v.source, .slice v.ia v.ids.length v.ic, .slice v.fa v.fields.length v.fc] 53)).cell? ⟨wr.heap.size, 0, none⟩ = some (.int .i64 v.no) := newc 0 rfl
              have z1 : (wr.alloc (.cells #[.int .i64 v.no, .int .i64 v.at_, .string v.source, .slice v.ia v.ids.length v.ic, .slice v.fa v.fields.length v.fc] 53)).cell? ⟨wr.heap.size, 1, none⟩ = some (.int .i64 v.at_) := newc 1 rfl
              have z2 : (wr.alloc (.cells #[.int .i64 v.no, .int .i64 v.at_, .string v.source, .slice v.ia v.ids.length v.ic, .slice v.fa v.fields.length v.fc] 53)).cell? ⟨wr.heap.size, 2, none⟩ = some (.string v.source) := newc 2 rfl
              have z3 : (wr.alloc (.cells #[.int .i64 v.no, .int .i64 v.at_, .string v.source, .slice v.ia v.ids.length v.ic, .slice v.fa v.fields.length v.fc] 53)).cell? ⟨wr.heap.size, 3, none⟩ = some (.slice v.ia v.ids.length v.ic) := newc 3 rfl
              have z4 : (wr.alloc (.cells #[.int .i64 v.no, .int .i64 v.at_, .string v.source, .slice v.ia v.ids.length v.ic, .slice v.fa v.fields.length v.fc] 53)).cell? ⟨wr.heap.size, 4, none⟩ = some (.slice v.fa v.fields.length v.fc) := newc 4 rfl
              have HBN := Lib.hid (new1 (w := wr) (.cells #[.int .i64 v.no, .int .i64 v.at_, .string v.source, .slice v.ia v.ids.length v.ic, .slice v.fa v.fields.length v.fc] 53))
              go_upto_region 29 with (fail)
              clear d0 d1 d2 d3 d4
              generalize wr.alloc (.cells #[.int .i64 v.no, .int .i64 v.at_, .string v.source, .slice v.ia v.ids.length v.ic, .slice v.fa v.fields.length v.fc] 53) = W10 at *
              have HB10 := Lib.hid (hb10.out.trans (HBN.out.mono hb10.out.size))
              have HW10 := Lib.hid (hin10.below HBN.out)
              have y0 := lift_cell x0 _ HBN.out
              have hlt3 : Hid (j + 1 ≤ k) := hlt2
              clear HBN hin10 hb10 z1 z2 z3 z4 x0
              generalize wr.heap.size = vb at *
              have HC1 := Lib.hid (together_any H6 Ap cp ps u.no v.no W10 HW10.out HPA.out hpn.out.1 hpn.out.2.1)
              have HC2 := Lib.hid (fun W hW => together_any H6 Aq cq qs u.no v.no W hW HQA.out hpn.out.2.2.1 hpn.out.2.2.2)
              generalize anyF (togB u.no v.no) ps = h1 at HC1 HJ3
              generalize anyF (togB u.no v.no) qs = h2 at HC2 HJ3
              go_wp2_with fail
              refine HC1.out.mono ?_
              rintro e W11 ⟨rfl, hb11⟩
              have HB11 := Lib.hid (HB10.out.trans (hb11.mono HB10.out.size))
              have HW11 := Lib.hid (HW10.out.below hb11)
              have x0 := lift_cell y0 _ hb11
              have x1 := lift_cell z0 _ hb11
              clear hb11 z0 y0 HC1 HB10 HW10
              have hw9 : IntKind.i64.wrap ((j : Int) + 1) = (j : Int) + 1 := IntWalk.i64_in _ (by omega)
              cases h1 with
              | false =>
                go_wp2_with fail
                go_roundw
                case rel => exact ⟨j + 1, hlt3.out, by go_num, HB11⟩
                case measure => have h5 := hlt3.out; simp [intOf]; omega
              | true =>
                have he : h2 = true := HJ3.out rfl
                subst he
                go_wp2_with fail
                refine (HC2.out _ HW11.out).mono ?_
                rintro e W12 ⟨rfl, hb12⟩
                have HB12 := Lib.hid (HB11.out.trans (hb12.mono HB11.out.size))
                clear hb12 x0 x1
                go_wp2_with fail
                go_roundw
                case rel => exact ⟨j + 1, hlt3.out, by go_num, HB12⟩
                case measure => have h5 := hlt3.out; simp [intOf]; omega
            · have hie : j = k := by omega
              subst hie
              have HB11 := Lib.hid (HB9.out.trans (hb10.out.mono HB9.out.size))
              clear hb10 hin10 x0
              have hw9 : IntKind.i64.wrap ((i : Int) + 1) = (i : Int) + 1 := IntWalk.i64_in _ (by omega)
              go_wp2_with fail
              go_roundw
              case rel => exact ⟨i + 1, HLT.out, by go_num, HB11⟩
              case measure => have h5 := HLT.out; simp [intOf]; omega
        · have hie : i = k := by omega
          subst hie
          have HW9 := Lib.hid hin9
          have HB9 := Lib.hid (HBX.out.trans (hb9.out.mono HBX.out.size))
          clear hb9 hin9
          go_wp2_with fail
          refine (HPE6.out _ HW9.out).mono ?_
          rintro e W10 ⟨rfl, hb10⟩
          have HF := Lib.hid (HB9.out.trans (hb10.mono HB9.out.size))
          clear hb10
          go_wp2_with fail
          exact bodyPost_ret (by kernel_rfl) rfl ⟨rfl, HF.out⟩
end Go.Proofs.YtbidhpgjmcedaaaGreatDoor
