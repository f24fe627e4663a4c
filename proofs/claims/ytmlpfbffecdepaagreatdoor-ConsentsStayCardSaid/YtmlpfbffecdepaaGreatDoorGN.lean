/- Texts of this claim, put together: CompSt, Merge. -/
import Derived.Test.YtmlpfbffecdepaaGreatDoorGL
import Derived.Test.YtmlpfbffecdepaaGreatDoorGB
import Derived.Test.YtmlpfbffecdepaaGreatDoorGC
import Derived.Test.YtmlpfbffecdepaaGreatDoorGM
import Derived.Test.YtmlpfbffecdepaaGreatDoorGH
/- slices.CompactFunc of statements. -/
namespace Go.Proofs.YtmlpfbffecdepaaGreatDoor
set_option linter.unusedVariables false
open Go.RowKit
/-- The list in the making: i are kept, j are looked at. -/
structure CompOk {D : Type} (eq : D → D → Bool) (ds cur : List D) (i j : Nat) : Prop where
  len : cur.length = ds.length
  pos : 1 ≤ i
  le : i < j
  lt : j ≤ ds.length
  low : cur.take i = compF eq (ds.take j)
  high : cur.drop (j - 1) = ds.drop (j - 1)
section
variable {D : Type} {eq : D → D → Bool} {ds cur : List D} {i j : Nat}
theorem CompOk.get (h : CompOk eq ds cur i j) {m : Nat} (h1 : j - 1 ≤ m) (hm : m < ds.length) : cur[m]'(by rw [h.len]; exact hm) = ds[m] := by
  have e := congrArg (fun l => l[m - (j - 1)]?) h.high
  simp only [List.getElem?_drop] at e
  rw [show j - 1 + (m - (j - 1)) = m from by omega, List.getElem?_eq_getElem (by rw [h.len]; exact hm), List.getElem?_eq_getElem hm] at e
  exact Option.some.inj e
theorem CompOk.drop (h : CompOk eq ds cur i j) (hj : j < ds.length) (hp : eq ds[j] (ds[j - 1]'(by omega)) = true) : CompOk eq ds cur i (j + 1) := by
  have hle := h.le
  have hpos := h.pos
  refine ⟨h.len, h.pos, by omega, hj, ?_, ?_⟩
  · rw [compF_take eq ds j (by omega) hj, if_pos hp, List.append_nil, h.low]
  · have : (cur.drop (j - 1)).drop 1 = (ds.drop (j - 1)).drop 1 := by rw [h.high]
    rw [List.drop_drop, List.drop_drop] at this
    rw [show j + 1 - 1 = j - 1 + 1 from by omega]
    exact this
theorem CompOk.keep (h : CompOk eq ds cur i j) (hj : j < ds.length) (hp : eq ds[j] (ds[j - 1]'(by omega)) = false) : CompOk eq ds (cur.set i ds[j]) (i + 1) (j + 1) := by
  have hle := h.le
  have hpos := h.pos
  have hl := h.len
  refine ⟨by simp [hl], by omega, by omega, hj, ?_, ?_⟩
  · rw [compF_take eq ds j (by omega) hj, if_neg (by rw [hp]; decide), List.take_succ_eq_append_getElem (by simp; omega), List.take_set_of_le (Nat.le_refl _), h.low]
    simp
  · have : (cur.drop (j - 1)).drop 1 = (ds.drop (j - 1)).drop 1 := by rw [h.high]
    rw [List.drop_drop, List.drop_drop] at this
    rw [show j + 1 - 1 = j - 1 + 1 from by omega, List.drop_set_of_lt (by omega)]
    exact this
theorem CompOk.done (h : CompOk eq ds cur i ds.length) : cur.take i = compF eq ds := by rw [h.low, List.take_length]
theorem CompOk.start {k : Nat} (h1 : 1 ≤ k) (hk : k < ds.length) (h : compF eq (ds.take k) = ds.take k) (hp : eq ds[k] (ds[k - 1]'(by omega)) = true) : CompOk eq ds ds k (k + 1) := by
  refine ⟨rfl, h1, by omega, hk, ?_, rfl⟩
  rw [compF_take eq ds k (by omega) hk, if_pos hp, List.append_nil, h]
end
set_option maxHeartbeats 8000000 in
set_option maxRecDepth 100000 in
theorem compactFunc_St (H : Frz) (kf : Nat) (caps : List Value) (eq : StD → StD → Bool) (ds : List StD)
    (hp : ∀ (W : World) (a b : StD), a ∈ ds → b ∈ ds → H.In W → Calls Tryz.prog kf ((.agg #[.int .i64 a.no, .int .i64 a.at_, .int .i64 a.kind, .string a.text, .string a.purp, .string a.region, .int .i64 a.ch, .int .i64 a.what] : Value) :: (.agg #[.int .i64 b.no, .int .i64 b.at_, .int .i64 b.kind, .string b.text, .string b.purp, .string b.region, .int .i64 b.ch, .int .i64 b.what] : Value) :: caps).toArray W fun e W' => e = .returned (.bool (eq a b)) ∧ Below W.heap.size W W')
    (hcall : ∀ (a b : Value) (W : World), (callFunc kf (a :: b :: caps).toArray).run Tryz.prog W = .ok (.enter kf (a :: b :: caps).toArray) W)
    (B : Nat) (v : Value) (w : World) (hH : H.In w) (hO : Orow w B 38 8 fSt v ds) (hf : ∀ q, v.ownBlock = some q → H q = none) (hl : ds.length ≤ 100000) :
    Calls Tryz.prog 34 #[v, .func (.func kf) #[] caps.toArray] w fun e w' => (∃ v', e = .returned v' ∧ Orow w' B 38 8 fSt v' (compF eq ds) ∧ (v'.ownBlock = v.ownBlock)) ∧ w.grownBy w' v.ownBlock := by
  by_cases hs : ds.length < 2
  · obtain ⟨A, cap, hv, -⟩ := hO.slice
    subst hv
    have HF : Hid ((∃ v', Ending.returned (.slice A ds.length cap) = .returned v' ∧ Orow w B 38 8 fSt v' (compF eq ds) ∧ (v'.ownBlock = (Value.slice A ds.length cap).ownBlock)) ∧ w.grownBy w (Value.slice A ds.length cap).ownBlock) := by
      refine ⟨⟨_, rfl, ?_, rfl⟩, ⟨rfl, rfl, rfl, Nat.le_refl _, fun k hk _ => rfl⟩⟩
      have : compF eq ds = ds := by
        match ds, hs with
        | [], _ => rfl
        | [x], _ => rfl
      rw [this]
      exact hO
    have h1 : decide ((ds.length : Int) < 2) = true := by simp; omega
    clear hp hO hf hH
    go_enter Tryz.func34, Tryz.ntmps34
    go_wp2_with fail
    go_ret
    exact HF.out
  · obtain ⟨g, cap, rest, hv, hlc, hBg, hg, hm, hk, hr⟩ := hO.form (fun c => by subst c; simp at hs)
    subst hv
    have hgn : H g = none := hf g rfl
    have HP := Lib.hid hp
    have HH := Lib.hid hH
    have HKB := Lib.hid hk
    have HRE := Lib.hid hr
    have HG0 : Hid (w.grownBy w (some g)) := ⟨rfl, rfl, rfl, Nat.le_refl _, fun k hk _ => rfl⟩
    have hn2 : 2 ≤ ds.length := by omega
    have h1 : decide ((ds.length : Int) < 2) = false := by simp; omega
    have HC1 := Lib.hid (compF_one eq ds (by omega))
    clear hp hO hf hH hk hr hs
    go_enter Tryz.func34, Tryz.ntmps34
    go_wp2_with fail
    go_loopw [5] (fun t wr => ∃ k : Nat, 1 ≤ k ∧ k ≤ ds.length ∧ t = .int .i64 k ∧ Hid (compF eq (ds.take k) = ds.take k) ∧ Hid (KBlk wr g 38 8 fSt ds rest) ∧ Hid (w.grownBy wr (some g))) (fun t _ => ds.length - (intOf t).toNat)
    case atStart => exact ⟨1, by omega, by omega, rfl, HC1, HKB, HG0⟩
    case round =>
      obtain ⟨k, hk1, hkn, rfl, hC, hK, hG⟩ := hrel
      clear HKB HG0 HC1
      by_cases hlt : k < ds.length
      · have hlt1 : k - 1 < ds.length := by omega
        have c0 : wr.cell? ⟨g, k * 8, none⟩ = some (fSt ds[k] 0) := hK.out.cell k 0 hlt (by omega)
        have c1 : wr.cell? ⟨g, k * 8 + 1, none⟩ = some (fSt ds[k] 1) := hK.out.cell k 1 hlt (by omega)
        have c2 : wr.cell? ⟨g, k * 8 + 2, none⟩ = some (fSt ds[k] 2) := hK.out.cell k 2 hlt (by omega)
        have c3 : wr.cell? ⟨g, k * 8 + 3, none⟩ = some (fSt ds[k] 3) := hK.out.cell k 3 hlt (by omega)
        have c4 : wr.cell? ⟨g, k * 8 + 4, none⟩ = some (fSt ds[k] 4) := hK.out.cell k 4 hlt (by omega)
        have c5 : wr.cell? ⟨g, k * 8 + 5, none⟩ = some (fSt ds[k] 5) := hK.out.cell k 5 hlt (by omega)
        have c6 : wr.cell? ⟨g, k * 8 + 6, none⟩ = some (fSt ds[k] 6) := hK.out.cell k 6 hlt (by omega)
        have c7 : wr.cell? ⟨g, k * 8 + 7, none⟩ = some (fSt ds[k] 7) := hK.out.cell k 7 hlt (by omega)
        have d0 : wr.cell? ⟨g, (k - 1) * 8, none⟩ = some (fSt ds[k - 1] 0) := hK.out.cell (k - 1) 0 hlt1 (by omega)
        have d1 : wr.cell? ⟨g, (k - 1) * 8 + 1, none⟩ = some (fSt ds[k - 1] 1) := hK.out.cell (k - 1) 1 hlt1 (by omega)
        have d2 : wr.cell? ⟨g, (k - 1) * 8 + 2, none⟩ = some (fSt ds[k - 1] 2) := hK.out.cell (k - 1) 2 hlt1 (by omega)
        have d3 : wr.cell? ⟨g, (k - 1) * 8 + 3, none⟩ = some (fSt ds[k - 1] 3) := hK.out.cell (k - 1) 3 hlt1 (by omega)
        have d4 : wr.cell? ⟨g, (k - 1) * 8 + 4, none⟩ = some (fSt ds[k - 1] 4) := hK.out.cell (k - 1) 4 hlt1 (by omega)
        have d5 : wr.cell? ⟨g, (k - 1) * 8 + 5, none⟩ = some (fSt ds[k - 1] 5) := hK.out.cell (k - 1) 5 hlt1 (by omega)
        have d6 : wr.cell? ⟨g, (k - 1) * 8 + 6, none⟩ = some (fSt ds[k - 1] 6) := hK.out.cell (k - 1) 6 hlt1 (by omega)
        have d7 : wr.cell? ⟨g, (k - 1) * 8 + 7, none⟩ = some (fSt ds[k - 1] 7) := hK.out.cell (k - 1) 7 hlt1 (by omega)
        have HST := Lib.hid (fun h => CompOk.start (eq := eq) hk1 hlt hC.out h)
        have HNX : Hid (eq ds[k] ds[k - 1] = false → compF eq (ds.take (k + 1)) = ds.take (k + 1)) := fun h => by
          rw [compF_take eq ds k (by omega) hlt, if_neg (by rw [h]; decide), hC.out, List.take_succ_eq_append_getElem hlt]
        have HIN := Lib.hid (HH.out.grown hG.out hgn)
        have HCQ := Lib.hid (fun W hW => HP.out W ds[k] ds[k - 1] (List.getElem_mem hlt) (List.getElem_mem hlt1) hW)
        generalize ds[k] = x at *
        generalize ds[k - 1] = y at *
        generalize eq x y = q at *
        simp only [fSt] at c0 c1 c2 c3 c4 c5 c6 c7 d0 d1 d2 d3 d4 d5 d6 d7
        have hcq := hcall (.agg #[.int .i64 x.no, .int .i64 x.at_, .int .i64 x.kind, .string x.text, .string x.purp, .string x.region, .int .i64 x.ch, .int .i64 x.what]) (.agg #[.int .i64 y.no, .int .i64 y.at_, .int .i64 y.kind, .string y.text, .string y.purp, .string y.region, .int .i64 y.ch, .int .i64 y.what])
        have e1 : ((k : Int) - 1).toNat = k - 1 := by omega
        have e2 : IntKind.i64.wrap ((k : Int) - 1) = (k : Int) - 1 := IntWalk.i64_in _ (by omega)
        have e3 : (0 : Int) ≤ (k : Int) - 1 := by omega
        have e4 : (k : Int) - 1 < ds.length := by omega
        have e5 : (k : Int) < ds.length := by omega
        have e7 : (1 : Int) ≤ (k : Int) := by omega
        have e8 : (k : Int) ≤ ds.length := by omega
        clear hlt1
        go_wp2_with fail
        go_still_tail 10, (by kernel_rfl)
        change wpList _ _ _ _ _ wr.drew
        clear e1 e2
        go_wp2_with fail
        refine (HCQ.out wr.drew HIN.out).mono ?_
        rintro e w1 ⟨rfl, hb1⟩
        have hb : Below wr.heap.size wr w1 := (Below.refl _ wr).drew.trans hb1
        have hK1 := Lib.hid (hK.out.keep hb)
        have hG1 : Hid (w.grownBy w1 (some g)) := grown_below hG.out hb
        clear c0 c1 c2 c3 c4 c5 c6 c7 d0 d1 d2 d3 d4 d5 d6 d7 hb hb1 hK hG hcq HIN HCQ
        cases q with
        | false =>
          have HN := Lib.hid (HNX.out rfl)
          clear HNX HST
          go_wp2_with fail
          go_roundw
          case rel => exact ⟨k + 1, by omega, by omega, by go_num, HN, hK1, hG1⟩
          case measure => simp [intOf]; omega
        | true =>
          have HS := Lib.hid (HST.out rfl)
          have HLK := Lib.hid hlt
          obtain ⟨k0, hk0⟩ : ∃ k0 : Nat, k0 = k := ⟨_, rfl⟩
          have HK0 := Lib.hid hk0
          clear HNX HST hC hk0
          obtain ⟨w1', rfl⟩ : ∃ w1' : World, w1' = w1 := ⟨_, rfl⟩
          go_wp2_with fail
          go_loopw [5, 7] (fun t5 t7 wi => ∃ (i m : Nat) (cur : List StD), t5 = .int .i64 i ∧ t7 = .int .i64 m ∧ 1 ≤ m ∧ m ≤ ds.length - k ∧ Hid (CompOk eq ds cur i (k + m)) ∧ Hid (KBlk wi g 38 8 fSt cur rest) ∧ Hid (w.grownBy wi (some g))) (fun _ t _ => ds.length - k - (intOf t).toNat)
          case atStart => exact ⟨k, 1, ds, rfl, rfl, by omega, by omega, HS, hK1, hG1⟩
          case round =>
            obtain ⟨i, m, cur, rfl, rfl, hm1, hmn, hD, hK, hG⟩ := hrel
            clear HS hK1 hG1
            have hlen : cur.length = ds.length := hD.out.len
            have hij := hD.out.le
            have hip := hD.out.pos
            by_cases hlt : m < ds.length - k
            · have hjc : k + m < cur.length := by omega
              have hjc1 : k + m - 1 < cur.length := by omega
              have hj : k + m < ds.length := by omega
              have hj1 : k + m - 1 < ds.length := by omega
              have hx1 : cur[k + m] = ds[k + m] := hD.out.get (by omega) hj
              have hx2 : cur[k + m - 1] = ds[k + m - 1] := hD.out.get (by omega) hj1
              have c0 : wr.cell? ⟨g, k * 8 + m * 8, none⟩ = some (fSt ds[k + m] 0) := by have := hK.out.cell (k + m) 0 hjc (by omega); rw [hx1] at this; rw [show k * 8 + m * 8 = (k + m) * 8 + 0 from by omega]; exact this
              have c1 : wr.cell? ⟨g, k * 8 + m * 8 + 1, none⟩ = some (fSt ds[k + m] 1) := by have := hK.out.cell (k + m) 1 hjc (by omega); rw [hx1] at this; rw [show k * 8 + m * 8 + 1 = (k + m) * 8 + 1 from by omega]; exact this
              have c2 : wr.cell? ⟨g, k * 8 + m * 8 + 2, none⟩ = some (fSt ds[k + m] 2) := by have := hK.out.cell (k + m) 2 hjc (by omega); rw [hx1] at this; rw [show k * 8 + m * 8 + 2 = (k + m) * 8 + 2 from by omega]; exact this
              have c3 : wr.cell? ⟨g, k * 8 + m * 8 + 3, none⟩ = some (fSt ds[k + m] 3) := by have := hK.out.cell (k + m) 3 hjc (by omega); rw [hx1] at this; rw [show k * 8 + m * 8 + 3 = (k + m) * 8 + 3 from by omega]; exact this
              have c4 : wr.cell? ⟨g, k * 8 + m * 8 + 4, none⟩ = some (fSt ds[k + m] 4) := by have := hK.out.cell (k + m) 4 hjc (by omega); rw [hx1] at this; rw [show k * 8 + m * 8 + 4 = (k + m) * 8 + 4 from by omega]; exact this
              have c5 : wr.cell? ⟨g, k * 8 + m * 8 + 5, none⟩ = some (fSt ds[k + m] 5) := by have := hK.out.cell (k + m) 5 hjc (by omega); rw [hx1] at this; rw [show k * 8 + m * 8 + 5 = (k + m) * 8 + 5 from by omega]; exact this
              have c6 : wr.cell? ⟨g, k * 8 + m * 8 + 6, none⟩ = some (fSt ds[k + m] 6) := by have := hK.out.cell (k + m) 6 hjc (by omega); rw [hx1] at this; rw [show k * 8 + m * 8 + 6 = (k + m) * 8 + 6 from by omega]; exact this
              have c7 : wr.cell? ⟨g, k * 8 + m * 8 + 7, none⟩ = some (fSt ds[k + m] 7) := by have := hK.out.cell (k + m) 7 hjc (by omega); rw [hx1] at this; rw [show k * 8 + m * 8 + 7 = (k + m) * 8 + 7 from by omega]; exact this
              have d0 : wr.cell? ⟨g, k * 8 + (m - 1) * 8, none⟩ = some (fSt ds[k + m - 1] 0) := by have := hK.out.cell (k + m - 1) 0 hjc1 (by omega); rw [hx2] at this; rw [show k * 8 + (m - 1) * 8 = (k + m - 1) * 8 + 0 from by omega]; exact this
              have d1 : wr.cell? ⟨g, k * 8 + (m - 1) * 8 + 1, none⟩ = some (fSt ds[k + m - 1] 1) := by have := hK.out.cell (k + m - 1) 1 hjc1 (by omega); rw [hx2] at this; rw [show k * 8 + (m - 1) * 8 + 1 = (k + m - 1) * 8 + 1 from by omega]; exact this
              have d2 : wr.cell? ⟨g, k * 8 + (m - 1) * 8 + 2, none⟩ = some (fSt ds[k + m - 1] 2) := by have := hK.out.cell (k + m - 1) 2 hjc1 (by omega); rw [hx2] at this; rw [show k * 8 + (m - 1) * 8 + 2 = (k + m - 1) * 8 + 2 from by omega]; exact this
              have d3 : wr.cell? ⟨g, k * 8 + (m - 1) * 8 + 3, none⟩ = some (fSt ds[k + m - 1] 3) := by have := hK.out.cell (k + m - 1) 3 hjc1 (by omega); rw [hx2] at this; rw [show k * 8 + (m - 1) * 8 + 3 = (k + m - 1) * 8 + 3 from by omega]; exact this
              have d4 : wr.cell? ⟨g, k * 8 + (m - 1) * 8 + 4, none⟩ = some (fSt ds[k + m - 1] 4) := by have := hK.out.cell (k + m - 1) 4 hjc1 (by omega); rw [hx2] at this; rw [show k * 8 + (m - 1) * 8 + 4 = (k + m - 1) * 8 + 4 from by omega]; exact this
              have d5 : wr.cell? ⟨g, k * 8 + (m - 1) * 8 + 5, none⟩ = some (fSt ds[k + m - 1] 5) := by have := hK.out.cell (k + m - 1) 5 hjc1 (by omega); rw [hx2] at this; rw [show k * 8 + (m - 1) * 8 + 5 = (k + m - 1) * 8 + 5 from by omega]; exact this
              have d6 : wr.cell? ⟨g, k * 8 + (m - 1) * 8 + 6, none⟩ = some (fSt ds[k + m - 1] 6) := by have := hK.out.cell (k + m - 1) 6 hjc1 (by omega); rw [hx2] at this; rw [show k * 8 + (m - 1) * 8 + 6 = (k + m - 1) * 8 + 6 from by omega]; exact this
              have d7 : wr.cell? ⟨g, k * 8 + (m - 1) * 8 + 7, none⟩ = some (fSt ds[k + m - 1] 7) := by have := hK.out.cell (k + m - 1) 7 hjc1 (by omega); rw [hx2] at this; rw [show k * 8 + (m - 1) * 8 + 7 = (k + m - 1) * 8 + 7 from by omega]; exact this
              have HKE := Lib.hid (fun h => hD.out.keep hj h)
              have HDR := Lib.hid (fun h => hD.out.drop hj h)
              have HIN := Lib.hid (HH.out.grown hG.out hgn)
              have HCQ := Lib.hid (fun W hW => HP.out W ds[k + m] ds[k + m - 1] (List.getElem_mem hj) (List.getElem_mem hj1) hW)
              have HXX := Lib.hid hx1
              clear hx1 hx2
              generalize ds[k + m] = x at *
              generalize ds[k + m - 1] = y at *
              generalize eq x y = q at *
              simp only [fSt] at c0 c1 c2 c3 c4 c5 c6 c7 d0 d1 d2 d3 d4 d5 d6 d7
              have hcq := hcall (.agg #[.int .i64 x.no, .int .i64 x.at_, .int .i64 x.kind, .string x.text, .string x.purp, .string x.region, .int .i64 x.ch, .int .i64 x.what]) (.agg #[.int .i64 y.no, .int .i64 y.at_, .int .i64 y.kind, .string y.text, .string y.purp, .string y.region, .int .i64 y.ch, .int .i64 y.what])
              have e1 : ((m : Int) - 1).toNat = m - 1 := by omega
              have e2 : IntKind.i64.wrap ((m : Int) - 1) = (m : Int) - 1 := IntWalk.i64_in _ (by omega)
              have e3 : (0 : Int) ≤ (m : Int) - 1 := by omega
              have e4 : (m : Int) - 1 < ((ds.length - k : Nat) : Int) := by omega
              have e5 : (m : Int) < ((ds.length - k : Nat) : Int) := by omega
              have e7 : (1 : Int) ≤ (m : Int) := by omega
              have e8 : (m : Int) ≤ ((ds.length - k : Nat) : Int) := by omega
              clear hjc1 hj1
              go_wp2_with fail
              go_still_tail 10, (by kernel_rfl)
              change wpList _ _ _ _ _ wr.drew
              clear e1 e2
              go_wp2_with fail
              refine (HCQ.out wr.drew HIN.out).mono ?_
              rintro e w2 ⟨rfl, hb1⟩
              have hb : Below wr.heap.size wr w2 := (Below.refl _ wr).drew.trans hb1
              have hK2 := hK.out.keep hb
              have hG2 : Hid (w.grownBy w2 (some g)) := grown_below hG.out hb
              clear c0 c1 c2 c3 c4 c5 c6 c7 d0 d1 d2 d3 d4 d5 d6 d7 hb hb1 hK hG hcq HIN HCQ
              cases q with
              | true =>
                have hD2 := Lib.hid (HDR.out rfl)
                have HK2 := Lib.hid hK2
                clear HKE HDR hK2 hD
                go_wp2_with fail
                go_roundw
                case rel => exact ⟨i, m + 1, cur, rfl, by go_num, by omega, by omega, hD2, HK2, hG2⟩
                case measure => simp [intOf]; omega
              | false =>
                have hD2 := Lib.hid (HKE.out rfl)
                have hic : i < cur.length := by omega
                have c0 : w2.cell? ⟨g, k * 8 + m * 8, none⟩ = some (fSt x 0) := by have := hK2.cell (k + m) 0 hjc (by omega); rw [HXX.out] at this; rw [show k * 8 + m * 8 = (k + m) * 8 + 0 from by omega]; exact this
                have c1 : w2.cell? ⟨g, k * 8 + m * 8 + 1, none⟩ = some (fSt x 1) := by have := hK2.cell (k + m) 1 hjc (by omega); rw [HXX.out] at this; rw [show k * 8 + m * 8 + 1 = (k + m) * 8 + 1 from by omega]; exact this
                have c2 : w2.cell? ⟨g, k * 8 + m * 8 + 2, none⟩ = some (fSt x 2) := by have := hK2.cell (k + m) 2 hjc (by omega); rw [HXX.out] at this; rw [show k * 8 + m * 8 + 2 = (k + m) * 8 + 2 from by omega]; exact this
                have c3 : w2.cell? ⟨g, k * 8 + m * 8 + 3, none⟩ = some (fSt x 3) := by have := hK2.cell (k + m) 3 hjc (by omega); rw [HXX.out] at this; rw [show k * 8 + m * 8 + 3 = (k + m) * 8 + 3 from by omega]; exact this
                have c4 : w2.cell? ⟨g, k * 8 + m * 8 + 4, none⟩ = some (fSt x 4) := by have := hK2.cell (k + m) 4 hjc (by omega); rw [HXX.out] at this; rw [show k * 8 + m * 8 + 4 = (k + m) * 8 + 4 from by omega]; exact this
                have c5 : w2.cell? ⟨g, k * 8 + m * 8 + 5, none⟩ = some (fSt x 5) := by have := hK2.cell (k + m) 5 hjc (by omega); rw [HXX.out] at this; rw [show k * 8 + m * 8 + 5 = (k + m) * 8 + 5 from by omega]; exact this
                have c6 : w2.cell? ⟨g, k * 8 + m * 8 + 6, none⟩ = some (fSt x 6) := by have := hK2.cell (k + m) 6 hjc (by omega); rw [HXX.out] at this; rw [show k * 8 + m * 8 + 6 = (k + m) * 8 + 6 from by omega]; exact this
                have c7 : w2.cell? ⟨g, k * 8 + m * 8 + 7, none⟩ = some (fSt x 7) := by have := hK2.cell (k + m) 7 hjc (by omega); rw [HXX.out] at this; rw [show k * 8 + m * 8 + 7 = (k + m) * 8 + 7 from by omega]; exact this
                have HKP := Lib.hid (hK2.put i hic x)
                have HGP := Lib.hid (setK_grown (i * 8) ((List.range 8).map (fSt x)) hG2.out)
                have r0 := hK2.cell i 0 hic (by omega)
                have s0 := hK2.frozen (i * 8)
                have r1 := hK2.cell i 1 hic (by omega)
                have s1 := hK2.frozen (i * 8 + 1)
                have r2 := hK2.cell i 2 hic (by omega)
                have s2 := hK2.frozen (i * 8 + 2)
                have r3 := hK2.cell i 3 hic (by omega)
                have s3 := hK2.frozen (i * 8 + 3)
                have r4 := hK2.cell i 4 hic (by omega)
                have s4 := hK2.frozen (i * 8 + 4)
                have r5 := hK2.cell i 5 hic (by omega)
                have s5 := hK2.frozen (i * 8 + 5)
                have r6 := hK2.cell i 6 hic (by omega)
                have s6 := hK2.frozen (i * 8 + 6)
                have r7 := hK2.cell i 7 hic (by omega)
                have s7 := hK2.frozen (i * 8 + 7)
                simp only [Nat.add_zero] at r0
                simp only [fSt] at c0 c1 c2 c3 c4 c5 c6 c7
                clear HKE HDR hK2 hG2 hD HXX
                go_wp2_with fail
                go_roundw
                case rel => exact ⟨i + 1, m + 1, cur.set i x, by go_num, by go_num, by omega, by omega, hD2, HKP, HGP⟩
                case measure => simp [intOf]; omega
            · have hme : k + m = ds.length := by omega
              have hD := hD.out
              rw [hme] at hD
              have hin : i < ds.length := hD.le
              have hdone := Lib.hid hD.done
              obtain ⟨z0, hz0⟩ : ∃ z : Value, z = .agg #[.int .i64 0, .int .i64 0, .int .i64 0, .string ⟨#[]⟩, .string ⟨#[]⟩, .string ⟨#[]⟩, .int .i64 0, .int .i64 0] := ⟨_, rfl⟩
              have hzs : z0.cells.size = 8 := by rw [hz0]; rfl
              have hm8 : i * 8 + (ds.length - i) * 8 = ds.length * 8 := by omega
              have hcl : ∀ ty, (Builtin.clear_ #[28] ty #[.slice (some ⟨g, i * 8, none⟩) (ds.length - i) (cap - i)]).run Tryz.prog wr = .ok (.tuple #[]) (setK wr g (i * 8) (Builtin.zeroCells z0.cells (ds.length - i)).toList) :=
                fun ty => run_clear_rows wr _ _ ty z0 Tryz.underlying28 (fun w => by rw [hz0]; kernel_rfl) 8 hzs (by omega) (by rw [hz0]; simp [Value.cells, Value.oneCell']) g (i * 8) _ _ (by omega) (fun q hq => by
                  have h1 := hK.out.cell (i + q / 8) (q % 8) (by omega) (by omega)
                  rw [show i * 8 + q = (i + q / 8) * 8 + q % 8 from by omega, h1]; rfl) (fun q hq => hK.out.frozen _)
              have hKC := Lib.hid (hK.out.cut (i := i) (by omega) (Builtin.zeroCells z0.cells (ds.length - i)).toList (by rw [Array.length_toList, size_zeroCells, hzs]; omega))
              have hGC := Lib.hid (setK_grown (i * 8) (Builtin.zeroCells z0.cells (ds.length - i)).toList hG.out)
              have hLC : Hid ((Builtin.zeroCells z0.cells (ds.length - i)).toList.length = (ds.length - i) * 8) := by show _ = _; rw [Array.length_toList, size_zeroCells, hzs]
              generalize setK wr g (i * 8) (Builtin.zeroCells z0.cells (ds.length - i)).toList = w9 at *
              have HF : Hid ((∃ v', Ending.returned (.slice (some ⟨g, 0, none⟩) i cap) = .returned v' ∧ Orow w9 B 38 8 fSt v' (compF eq ds) ∧ (v'.ownBlock = (Value.slice (some ⟨g, 0, none⟩) ds.length cap).ownBlock)) ∧ w.grownBy w9 (Value.slice (some ⟨g, 0, none⟩) ds.length cap).ownBlock) := by
                refine ⟨⟨_, rfl, ?_, rfl⟩, hGC.out⟩
                have hli : (cur.take i).length = i := by rw [List.length_take]; omega
                have := Orow.of_blk (cap := cap) hKC.out hBg hm (by omega) (by rw [List.length_append, hLC.out, HRE.out, hli]; omega)
                rw [hli] at this
                rw [← hdone.out]
                exact this
              clear hD hK hG hKC hGC hLC hz0 hzs hm8 hdone
              go_wp2_with fail
              go_ret
              exact HF.out
      · have hke : k = ds.length := by omega
        subst hke
        have HF : Hid ((∃ v', Ending.returned (.slice (some ⟨g, 0, none⟩) ds.length cap) = .returned v' ∧ Orow wr B 38 8 fSt v' (compF eq ds) ∧ (v'.ownBlock = (Value.slice (some ⟨g, 0, none⟩) ds.length cap).ownBlock)) ∧ w.grownBy wr (Value.slice (some ⟨g, 0, none⟩) ds.length cap).ownBlock) := by
          refine ⟨⟨_, rfl, ?_, rfl⟩, hG.out⟩
          have h2 := hC.out
          rw [List.take_length] at h2
          rw [h2]
          exact Orow.of_blk hK.out hBg hm hlc HRE.out
        clear hK hG hC
        go_wp2_with fail
        go_ret
        exact HF.out
end Go.Proofs.YtmlpfbffecdepaaGreatDoor

/- consent.Merge of two lists that are right. -/
namespace Go.Proofs.YtmlpfbffecdepaaGreatDoor
set_option linter.unusedVariables false
open Go.RowKit
set_option maxHeartbeats 4000000 in
set_option maxRecDepth 100000 in
theorem eqO_any (a b : StD) (w : World) : Calls Tryz.prog 35 #[.agg #[.int .i64 a.no, .int .i64 a.at_, .int .i64 a.kind, .string a.text, .string a.purp, .string a.region, .int .i64 a.ch, .int .i64 a.what], .agg #[.int .i64 b.no, .int .i64 b.at_, .int .i64 b.kind, .string b.text, .string b.purp, .string b.region, .int .i64 b.ch, .int .i64 b.what]] w fun e w' => e = .returned (.bool (eqO a b)) ∧ Below w.heap.size w w' := by
  have hb := Lib.hid ((Gro.alloc w (.cells #[.int .i64 a.no, .int .i64 a.at_, .int .i64 a.kind, .string a.text, .string a.purp, .string a.region, .int .i64 a.ch, .int .i64 a.what] 38)).trans (Gro.alloc _ (.cells #[.int .i64 b.no, .int .i64 b.at_, .int .i64 b.kind, .string b.text, .string b.purp, .string b.region, .int .i64 b.ch, .int .i64 b.what] 38)))
  have H1 : Hid (((w.alloc (.cells #[.int .i64 a.no, .int .i64 a.at_, .int .i64 a.kind, .string a.text, .string a.purp, .string a.region, .int .i64 a.ch, .int .i64 a.what] 38)).alloc (.cells #[.int .i64 b.no, .int .i64 b.at_, .int .i64 b.kind, .string b.text, .string b.purp, .string b.region, .int .i64 b.ch, .int .i64 b.what] 38)).heap[w.heap.size]? = some (.cells #[.int .i64 a.no, .int .i64 a.at_, .int .i64 a.kind, .string a.text, .string a.purp, .string a.region, .int .i64 a.ch, .int .i64 a.what] 38)) := (heap_lt (by simp)).trans (heap_alloc_new _ _)
  have H2 : Hid (((w.alloc (.cells #[.int .i64 a.no, .int .i64 a.at_, .int .i64 a.kind, .string a.text, .string a.purp, .string a.region, .int .i64 a.ch, .int .i64 a.what] 38)).alloc (.cells #[.int .i64 b.no, .int .i64 b.at_, .int .i64 b.kind, .string b.text, .string b.purp, .string b.region, .int .i64 b.ch, .int .i64 b.what] 38)).heap[w.heap.size + 1]? = some (.cells #[.int .i64 b.no, .int .i64 b.at_, .int .i64 b.kind, .string b.text, .string b.purp, .string b.region, .int .i64 b.ch, .int .i64 b.what] 38)) := heap_at (by simp)
  have HO := Lib.hid (fun W => order_g a b W)
  have HE : Hid (∀ c : Int, ordCmp a b = c → eqO a b = (c == 0)) := by
    intro c hc
    rw [← hc, Bool.eq_iff_iff, eqO_iff, beq_iff_eq]
  go_enter Tryz.func35, Tryz.ntmps35
  go_upto_region 1 with (fail)
  generalize (w.alloc (.cells #[.int .i64 a.no, .int .i64 a.at_, .int .i64 a.kind, .string a.text, .string a.purp, .string a.region, .int .i64 a.ch, .int .i64 a.what] 38)).alloc (.cells #[.int .i64 b.no, .int .i64 b.at_, .int .i64 b.kind, .string b.text, .string b.purp, .string b.region, .int .i64 b.ch, .int .i64 b.what] 38) = W2 at *
  have K0 : W2.cell? ⟨w.heap.size, 0, none⟩ = some (.int .i64 a.no) := cell_h H1.out 0 rfl
  have K1 : W2.cell? ⟨w.heap.size, 1, none⟩ = some (.int .i64 a.at_) := cell_h H1.out 1 rfl
  have K2 : W2.cell? ⟨w.heap.size, 2, none⟩ = some (.int .i64 a.kind) := cell_h H1.out 2 rfl
  have K3 : W2.cell? ⟨w.heap.size, 3, none⟩ = some (.string a.text) := cell_h H1.out 3 rfl
  have K4 : W2.cell? ⟨w.heap.size, 4, none⟩ = some (.string a.purp) := cell_h H1.out 4 rfl
  have K5 : W2.cell? ⟨w.heap.size, 5, none⟩ = some (.string a.region) := cell_h H1.out 5 rfl
  have K6 : W2.cell? ⟨w.heap.size, 6, none⟩ = some (.int .i64 a.ch) := cell_h H1.out 6 rfl
  have K7 : W2.cell? ⟨w.heap.size, 7, none⟩ = some (.int .i64 a.what) := cell_h H1.out 7 rfl
  have J0 : W2.cell? ⟨w.heap.size + 1, 0, none⟩ = some (.int .i64 b.no) := cell_h H2.out 0 rfl
  have J1 : W2.cell? ⟨w.heap.size + 1, 1, none⟩ = some (.int .i64 b.at_) := cell_h H2.out 1 rfl
  have J2 : W2.cell? ⟨w.heap.size + 1, 2, none⟩ = some (.int .i64 b.kind) := cell_h H2.out 2 rfl
  have J3 : W2.cell? ⟨w.heap.size + 1, 3, none⟩ = some (.string b.text) := cell_h H2.out 3 rfl
  have J4 : W2.cell? ⟨w.heap.size + 1, 4, none⟩ = some (.string b.purp) := cell_h H2.out 4 rfl
  have J5 : W2.cell? ⟨w.heap.size + 1, 5, none⟩ = some (.string b.region) := cell_h H2.out 5 rfl
  have J6 : W2.cell? ⟨w.heap.size + 1, 6, none⟩ = some (.int .i64 b.ch) := cell_h H2.out 6 rfl
  have J7 : W2.cell? ⟨w.heap.size + 1, 7, none⟩ = some (.int .i64 b.what) := cell_h H2.out 7 rfl
  clear H1 H2
  go_wp2_with fail
  refine (HO.out W2).mono ?_
  rintro e w3 ⟨rfl, hg⟩
  have HB := Lib.hid (hb.out.trans hg).below
  have HV := Lib.hid (HE.out _ rfl)
  clear K0 K1 K2 K3 K4 K5 K6 K7 J0 J1 J2 J3 J4 J5 J6 J7 hg HO HE
  generalize ordCmp a b = c at *
  go_wp2_with fail
  go_ret
  exact ⟨congrArg (fun q => Ending.returned (Value.bool q)) HV.out.symm, HB.out⟩
theorem fSt_num (s : StD) (n : Int) (m : Nat) (h : m ≠ 0) : fSt { s with no := n } m = fSt s m := by
  match m, h with
  | 0, h => exact absurd rfl h
  | 1, _ => rfl
  | 2, _ => rfl
  | 3, _ => rfl
  | 4, _ => rfl
  | 5, _ => rfl
  | 6, _ => rfl
  | m + 7, _ => rfl
set_option maxHeartbeats 8000000 in
set_option maxRecDepth 100000 in
theorem merge_any (H : Frz) (hM : MLen H) (A : Option Addr) (cap : Nat) (ps : List PurD) (A2 : Option Addr) (cap2 : Nat) (la : List StD) (A3 : Option Addr) (cap3 : Nat) (lb : List StD) (w : World) (hH : H.In w)
    (hP : PolIn H A ps) (hl : ps.length ≤ 1000000) (hR2 : Rw H A2 8 fSt la) (hR3 : Rw H A3 8 fSt lb) (hl2 : la.length + lb.length ≤ 3000) (hsz2 : SzSt la) (hsz3 : SzSt lb) (he2 : sayErr idErr ps la = 0) (he3 : sayErr idErr ps lb = 0) :
    Calls Tryz.prog 10 #[.slice A ps.length cap, .slice A2 la.length cap2, .slice A3 lb.length cap3] w fun e w' => ∃ v m, e = .returned (.tuple #[v, .int .i64 0]) ∧ Orow w' w.heap.size 38 8 fSt v m ∧ MergeOk (la ++ lb) m ∧ Below w.heap.size w w' := by
  obtain ⟨ls, hls⟩ : ∃ ls : List SlD, ls = [⟨A2, cap2, la⟩, ⟨A3, cap3, lb⟩] := ⟨_, rfl⟩
  have hlen : ls.length = 2 := by rw [hls]; rfl
  have hcat : catF ls = la ++ lb := by rw [hls]; simp [catF]
  have hall : ∀ d ∈ ls, Rw H d.A 8 fSt d.l ∧ d.l.length ≤ 3000 ∧ SzSt d.l ∧ sayErr idErr ps d.l = 0 := by
    intro d hd
    rw [hls] at hd
    simp at hd
    rcases hd with rfl | rfl
    · exact ⟨hR2, by simp; omega, hsz2, he2⟩
    · exact ⟨hR3, by simp; omega, hsz3, he3⟩
  have hcs : cellsOf 1 fSl ls = [.slice A2 la.length cap2, .slice A3 lb.length cap3] := by rw [hls]; rfl
  have HLS : Hid (∀ W, ∃ H', H.Le H' ∧ H'.In (W : World) → True) := fun W => ⟨H, fun _ => trivial⟩
  have HPUT : Hid (∀ W : World, H.In W → ∃ H', H.Le H' ∧ H'.In (W.alloc (.cells #[.slice A2 la.length cap2, .slice A3 lb.length cap3] 28)) ∧ Rw H' (some ⟨W.heap.size, 0, none⟩) 1 fSl ls) := by
    intro W hW
    obtain ⟨H', le, hb, hin⟩ := hW.put (.cells #[.slice A2 la.length cap2, .slice A3 lb.length cap3] 28)
    refine ⟨H', le, hin, Rw_blk (T := 28) ?_⟩
    rw [hcs]
    exact hb
  have HALL := Lib.hid hall
  have HCAT := Lib.hid hcat
  have HM := Lib.hid hM
  have HP := Lib.hid hP
  have HH := Lib.hid hH
  have h3 : ((ls.length : Nat) : Int) = 2 := by omega
  have HL2 := Lib.hid hl2
  clear HLS hcs hall hcat hM hP hH hls hR2 hR3 hsz2 hsz3 he2 he3 hl2
  obtain ⟨H1, le1, hin1, hRs1⟩ := HPUT.out w HH.out
  have HB1 := Lib.hid (new1 (w := w) (.cells #[.slice A2 la.length cap2, .slice A3 lb.length cap3] 28))
  have HIN1 := Lib.hid hin1
  have HRS1 := Lib.hid hRs1
  have HLE1 := Lib.hid le1
  clear le1 hin1 hRs1
  go_enter Tryz.func10, Tryz.ntmps10
  go_upto_block 2 with (fail)
  generalize w.alloc (.cells #[.slice A2 la.length cap2, .slice A3 lb.length cap3] 28) = W1 at *
  go_loopw [9, 10, 17] (fun _ _ t wr => ∃ i : Nat, i ≤ ls.length ∧ t = .int .i64 i ∧ Hid (Below W1.heap.size W1 wr)) (fun _ _ t _ => ls.length - (intOf t).toNat)
  case atStart => exact ⟨0, by omega, rfl, Below.refl _ _⟩
  case round =>
    obtain ⟨i, hi, rfl, hb⟩ := hrel
    by_cases hlt : i < ls.length
    · have hin := HIN1.out.below hb.out
      obtain ⟨b, off, hbo, hbl, hc⟩ := HRS1.out.at_ hin hlt (by omega)
      injection hbo with hbo
      injection hbo with hb1 hb2
      subst hb1 hb2
      have c0 := hc 0 (by omega)
      rw [show 0 + i * 1 + 0 = i from by omega] at c0
      unfold fSl at c0
      obtain ⟨a1, a2, a3, a4⟩ := HALL.out _ (List.getElem_mem hlt)
      have HCK := Lib.hid (check_any H HM.out A cap ps ls[i].A ls[i].cap ls[i].l wr ((hin.le HLE1.out)) HP.out hl a1 (by omega) a3)
      rw [a4] at HCK
      clear hc a1 a2 a3 a4 hin
      generalize ls[i] = d at *
      have e5 : (i : Int) < 2 := by omega
      go_wp2_with fail
      refine HCK.out.mono ?_
      rintro e w2 ⟨rfl, hb2⟩
      have HB2 := Lib.hid (hb.out.trans (hb2.mono hb.out.size))
      clear hb2 c0 HCK hb
      go_wp2_with fail
      go_roundw
      case rel => exact ⟨i + 1, by omega, by go_num, HB2⟩
      case measure => simp [intOf]; omega
    · have hie : i = 2 := by omega
      subst hie
      have HB2 := Lib.hid (HB1.out.trans (hb.out.mono HB1.out.size))
      obtain ⟨H3, le3, hin3, hRs3⟩ := HPUT.out wr (HH.out.below HB2.out)
      have HB3 := Lib.hid (HB2.out.trans ((new1 (w := wr) (.cells #[.slice A2 la.length cap2, .slice A3 lb.length cap3] 28)).mono HB2.out.size))
      have HCC := Lib.hid (concat_St H3 (some ⟨wr.heap.size, 0, none⟩) 2 ls _ hin3 hRs3 (fun d hd => (HALL.out d hd).1.le le3) (by omega) (by rw [HCAT.out, List.length_append]; have := HL2.out; omega))
      rw [hlen] at HCC
      clear le3 hin3 hRs3 HB2 hb HPUT HRS1 HIN1 HLE1 HB1
      obtain ⟨w0, rfl⟩ : ∃ w0 : World, w0 = wr := ⟨_, rfl⟩
      go_wp2_with fail
      refine HCC.out.mono ?_
      rintro e w4 ⟨⟨v4, rfl, hO4⟩, hb4⟩
      rw [HCAT.out] at hO4
      have HO4 := Lib.hid (hO4.mono HB3.out.size)
      have HB4 := Lib.hid (HB3.out.trans (hb4.mono HB3.out.size))
      have hl4 : (la ++ lb).length ≤ 3000 := by rw [List.length_append]; exact HL2.out
      have HL4 := Lib.hid hl4
      clear hO4 hb4 HCC hl4
      go_wp2_with fail
      refine (sortFunc_St ordCmp ordCmp_ok 33 #[] (fun _ _ => by kernel_rfl) (fun W a b => order_g a b W) w.heap.size v4 (la ++ lb) w4 HO4.out (by have := HL4.out; omega)).mono ?_
      rintro e w5 ⟨rfl, ds, hperm, hsort, hO5, hg5⟩
      have HO5 := Lib.hid hO5
      have HB5 := Lib.hid (HB4.out.grown hg5 HB4.out.size (fun q hq => (HO4.out.lt hq).1))
      have HPE := Lib.hid hperm
      have HSO := Lib.hid hsort
      have hl5 : ds.length ≤ 3000 := by rw [hperm.length_eq]; exact HL4.out
      clear hO5 hg5 hperm hsort HO4 HB4
      go_wp2_with fail
      refine (compactFunc_St Frz.empty 35 [] eqO ds (fun W a b _ _ _ => eqO_any a b W) (fun _ _ _ => by kernel_rfl) w.heap.size v4 w5 (Frz.In.empty _) HO5.out (fun _ _ => rfl) (by omega)).mono ?_
      rintro e w6 ⟨⟨v6, rfl, hO6, how⟩, hg6⟩
      have HO6 := Lib.hid hO6
      have HB6 := Lib.hid (HB5.out.grown hg6 HB5.out.size (fun q hq => (HO5.out.lt hq).1))
      have hl6 : (compF eqO ds).length ≤ 3000 := Nat.le_trans (compF_sub _ _).length_le hl5
      have HMG : Hid (MergeOk (la ++ lb) (numL (compF eqO ds))) := ⟨ds, HPE.out, HSO.out, rfl⟩
      clear hO6 how hg6 HO5 HB5 HPE HSO
      generalize compF eqO ds = es at *
      obtain ⟨A6, cap6, hv6, hle6⟩ := HO6.out.slice
      subst hv6
      have h6 : decide (3000 < (es.length : Int)) = false := by simp; omega
      go_wp2_with fail
      have HO7 : Hid (Orow w6 w.heap.size 38 8 fSt (.slice A6 es.length cap6) (numTo 0 es)) := by show Orow _ _ _ _ _ _ _; rw [numTo_zero]; exact HO6.out
      clear HO6 h6
      go_loopw [12, 41] (fun _ t wr => ∃ i : Nat, i ≤ es.length ∧ t = .int .i64 i ∧ Hid (Orow wr w.heap.size 38 8 fSt (.slice A6 es.length cap6) (numTo i es)) ∧ Hid (Below w.heap.size w wr)) (fun _ t _ => es.length - (intOf t).toNat)
      case atStart => exact ⟨0, by omega, rfl, HO7, HB6⟩
      case round =>
        obtain ⟨i, hi, rfl, hO, hB⟩ := hrel
        clear HO7 HB6
        by_cases hlt : i < es.length
        · obtain ⟨g, cap7, rest, hv7, hle7, hBg, hg, hm, hk, hr⟩ := hO.out.form (fun c => by have := congrArg List.length c; rw [numTo_len] at this; have h0 : es.length = 0 := this; omega)
          rw [numTo_len] at hv7
          injection hv7 with hv7 _ hv8
          subst hv7 hv8
          have hli : i < (numTo i es).length := by rw [numTo_len]; exact hlt
          have hat : (numTo i es)[i] = es[i] := by rw [numTo_at hlt, if_neg (by omega)]
          have r0 := hk.cell i 0 hli (by omega)
          have s0 := hk.frozen (i * 8)
          simp only [Nat.add_zero] at r0
          have hu := hk.upd i 0 hli (by omega) (d' := { es[i] with no := (i + 1 : Nat) }) (x := .int .i64 ((i : Int) + 1)) rfl (fun m hm hne => by rw [hat]; exact fSt_num _ _ _ hne)
          rw [← numTo_succ hlt] at hu
          simp only [Nat.add_zero] at hu
          have HO9 : Hid (Orow (wr.setCell ⟨g, i * 8, none⟩ (.int .i64 ((i : Int) + 1))) w.heap.size 38 8 fSt (.slice (some ⟨g, 0, none⟩) es.length cap6) (numTo (i + 1) es)) := by
            have := Orow.of_blk (cap := cap6) hu hBg hm (by rw [numTo_len]; rw [numTo_len] at hle7; exact hle7) (by rw [numTo_len]; rw [numTo_len] at hr; exact hr)
            rwa [numTo_len] at this
          have HB9 : Hid (Below w.heap.size w (wr.setCell ⟨g, i * 8, none⟩ (.int .i64 ((i : Int) + 1)))) := hB.out.setCell hBg _
          rw [hat] at r0
          simp only [fSt] at r0
          clear hu hk hr hat hO hB hm hle7
          clear hli
          go_wp2_with fail
          go_roundw
          case rel => exact ⟨i + 1, by omega, by go_num, HO9, HB9⟩
          case measure => simp [intOf]; omega
        · have hie : i = es.length := by omega
          subst hie
          have HOF := Lib.hid hO.out
          go_wp2_with fail
          go_ret2
          exact ⟨_, _, rfl, HOF.out, HMG.out, hB.out⟩
end Go.Proofs.YtmlpfbffecdepaaGreatDoor
