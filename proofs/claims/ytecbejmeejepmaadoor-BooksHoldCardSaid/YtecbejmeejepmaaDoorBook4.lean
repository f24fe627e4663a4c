/- Books of coupons: a redemption undone; a code redeemed. -/
import Derived.Test.YtecbejmeejepmaaDoorBook3
namespace Go.Proofs.YtecbejmeejepmaaDoor
set_option linter.unusedVariables false
open Go.RowKit

theorem infoRed : (Tryd.prog.info? 49).map (fun i => (i.zero, i.size, i.bytes)) = some (some (.agg #[.int .i64 0, .string ⟨#[]⟩, .string ⟨#[]⟩, .int .i64 0, .int .i64 0]), 5, 56) := by kernel_rfl
def UndoPost (H : Frz) (g : Nat) (ds : List CouponD) (us : List UseD) (at_ : Int) (W : World) (e : Ending) (W' : World) : Prop :=
  (∃ r : Int, e = .returned (.int .i64 r)) ∧ ∃ us', BS H W' g ds us' ∧ Below g W W' ∧ us'.length = us.length ∧ (us' = us ∨ ∃ i, ∃ h : i < us.length, us' = us.set i { us[i] with undone := at_ })
theorem UndoPost.same {H : Frz} {W W' : World} {g : Nat} {ds : List CouponD} {us : List UseD} {at_ r : Int} (h : BS H W g ds us) (hb : Below W.heap.size W W') : UndoPost H g ds us at_ W (.returned (.int .i64 r)) W' :=
  ⟨⟨r, rfl⟩, us, h.below hb, hb.mono (Nat.le_of_lt h.lt), rfl, Or.inl rfl⟩
set_option maxHeartbeats 1000000 in
set_option maxRecDepth 20000 in
theorem undo_any (H : Frz) (g : Nat) (ds : List CouponD) (us : List UseD) (W : World) (hP : BS H W g ds us) (no at_ : Int) (n1 : 1 ≤ no) (n2 : no ≤ 1000) (h0 : 0 ≤ at_) (h9 : at_ ≤ 4321439) :
    Calls Tryd.prog 14 #[.pointer (some ⟨g, 0, none⟩), .int .i64 no, .int .i64 at_] W (UndoPost H g ds us at_ W) := by
  have HP := Lib.hid hP
  obtain ⟨bm, n, v, hg, hM, hO⟩ := hP.ex
  obtain ⟨Ah, caph, rfl, hch⟩ := hO.slice
  have x0 : W.cell? ⟨g, 0, none⟩ = some (.map (some bm)) := by simp [World.cell?, hg]
  have x1 : W.cell? ⟨g, 1, none⟩ = some (.slice Ah us.length caph) := by simp [World.cell?, hg]
  have HG := Lib.hid hg
  have HO := Lib.hid hO
  have hl2 := hP.l2
  have HSM := Lib.hid (fun r => UndoPost.same (at_ := at_) (r := r) hP (Below.refl _ _))
  clear hg hM hO hP
  go_enter Tryd.func14, Tryd.ntmps14
  go_wp2_with fail
  refine (offWithin_any _ _ _ _).mono ?_
  rintro e w' ⟨rfl, rfl⟩
  by_cases hno : no ≤ us.length
  · have e1 : (decide (1 ≤ no) && decide (no ≤ (us.length : Int))) = true := by simp; omega
    rw [e1]
    clear e1
    go_wp2_with fail
    refine (isMoment_any _ _).mono ?_
    rintro e w' ⟨rfl, rfl⟩
    have e2 : (decide (0 ≤ at_) && decide (at_ ≤ 4321439)) = true := by simp; omega
    rw [e2]
    clear e2
    obtain ⟨i, hi⟩ : ∃ i : Nat, no = (i : Int) + 1 := ⟨(no - 1).toNat, by omega⟩
    subst hi
    have hil : i < us.length := by omega
    have hne : us ≠ [] := fun e => by rw [e] at hil; simp at hil
    obtain ⟨q, cp, rest, hv, hle, hB, hq, hmx, hK, hr⟩ := HO.out.form hne
    simp only [Value.slice.injEq] at hv
    obtain ⟨rfl, hlen, rfl⟩ := hv
    clear hlen
    have c3 : W.cell? ⟨q, i * 5 + 3, none⟩ = some (.int .i64 us[i].at_) := hK.cell i 3 hil (by omega)
    have c4 : W.cell? ⟨q, i * 5 + 4, none⟩ = some (.int .i64 us[i].undone) := hK.cell i 4 hil (by omega)
    have f4 := hK.frozen (i * 5 + 4)
    have a1 : IntKind.i64.wrap ((i : Int) + 1 - 1) = (i : Int) := by rw [show (i : Int) + 1 - 1 = i from by omega]; exact IntWalk.i64_in _ (by omega)
    have a2 : (i : Int) + 1 - 1 = (i : Int) := by omega
    have a3 : (i : Int) < us.length := by omega
    have a4 : (0 : Int) ≤ (i : Int) := by omega
    have HU : Hid (UndoPost H g ds us at_ W (.returned (.int .i64 0)) (W.setCell ⟨q, i * 5 + 4, none⟩ (.int .i64 at_))) := ⟨⟨0, rfl⟩, _, (HP.out.undone HG.out hil at_).1, (HP.out.undone HG.out hil at_).2, by simp, Or.inr ⟨i, hil, rfl⟩⟩
    have hqg : ¬ q = g := by omega
    have hgq : ¬ g = q := by omega
    generalize us[i].at_ = ua at c3
    generalize us[i].undone = uu at c4
    clear hK hr hle
    by_cases b1 : at_ < ua
    · have b1' : decide (at_ < ua) = true := by simpa using b1
      go_wp2_with fail
      go_ret
      exact HSM.out _
    · have b1' : decide (at_ < ua) = false := by simpa using b1
      by_cases b2 : 0 ≤ uu
      · have b2' : decide (0 ≤ uu) = true := by simpa using b2
        go_wp2_with fail
        go_ret
        exact HSM.out _
      · have b2' : decide (0 ≤ uu) = false := by simpa using b2
        go_wp2_with fail
        go_ret
        exact HU.out
  · have e1 : (decide (1 ≤ no) && decide (no ≤ (us.length : Int))) = false := by simp; omega
    rw [e1]
    clear e1
    go_wp2_with fail
    go_ret
    exact HSM.out _
def RedPost (H : Frz) (g : Nat) (ds : List CouponD) (us : List UseD) (code who : ByteArray) (at_ : Int) (W : World) (e : Ending) (W' : World) : Prop :=
  ∃ us', BS H W' g ds us' ∧ Below g W W' ∧ ((∃ n m : Int, n ≠ 0 ∧ e = .returned (.tuple #[.int .i64 m, .int .i64 n]) ∧ us' = us ∧ ∀ d, CkOK ds code who at_ d → canR us d code who at_ → 5000 ≤ us.length) ∨
    (∃ d r no, CkOK ds code who at_ d ∧ canR us d code who at_ ∧ e = .returned (.tuple #[.int .i64 r, .int .i64 0]) ∧ us' = us ++ [⟨no, code, who, at_, -1⟩]))
theorem RedPost.same {H : Frz} {W W' : World} {g : Nat} {ds : List CouponD} {us : List UseD} {code who : ByteArray} {at_ n m : Int} (hn : n ≠ 0) (h : BS H W g ds us) (hb : Below W.heap.size W W') (hc : ∀ d, CkOK ds code who at_ d → canR us d code who at_ → 5000 ≤ us.length) : RedPost H g ds us code who at_ W (.returned (.tuple #[.int .i64 m, .int .i64 n])) W' :=
  ⟨us, h.below hb, hb.mono (Nat.le_of_lt h.lt), Or.inl ⟨n, m, hn, rfl, rfl, hc⟩⟩
/-- The book behind the store of Redeem. -/
theorem BS.redeemed {H : Frz} {W W' : World} {g : Nat} {ds : List CouponD} {us : List UseD} (h : BS H W g ds us) {bm : Nat} {v v' : Value} (hg : W.heap[g]? = some (.cells #[.map (some bm), v] 71 (0, 0)))
    {d : UseD} (ho : Orow W' (g + 1) 49 5 fU v' (us ++ [d])) (hb : Below (g + 1) W W') (hl : us.length < 5000) :
    (W'.heap[g]? = some (.cells #[.map (some bm), v] 71 (0, 0))) ∧ BS H (W'.setCell ⟨g, 1, none⟩ v') g ds (us ++ [d]) ∧ Below g W (W'.setCell ⟨g, 1, none⟩ v') := by
  obtain ⟨bm', n', v0, hg', hM, hO⟩ := h.ex
  rw [hg] at hg'
  simp at hg'
  obtain ⟨rfl, rfl⟩ := hg'
  have hW' : W'.heap[g]? = some (.cells #[.map (some bm), v] 71 (0, 0)) := by
    rw [hb.block g (by omega)]
    exact hg
  have hB1 : Below g W (W'.setCell ⟨g, 1, none⟩ v') := (hb.mono (Nat.le_succ g)).setCell (p := ⟨g, 1, none⟩) (Nat.le_refl _) _
  refine ⟨hW', ⟨⟨bm, n', v', ?_, hM, ho.far (grown_set W' ⟨g, 1, none⟩ v') (by show g < g + 1; omega)⟩, by simp; omega, h.under, h.fin.under h.under hB1⟩, hB1⟩
  simp [World.setCell, Array.getElem?_modify, hW']
set_option maxHeartbeats 2000000 in
set_option maxRecDepth 20000 in
theorem redeem_any (H : Frz) (g : Nat) (ds : List CouponD) (us : List UseD) (W : World) (hP : BS H W g ds us) (code who : ByteArray) (at_ : Int) (hc : code.size ≤ 1000) (hw : who.size ≤ 1000) :
    Calls Tryd.prog 17 #[.pointer (some ⟨g, 0, none⟩), .string code, .string who, .int .i64 at_] W (RedPost H g ds us code who at_ W) := by
  have HP := Lib.hid hP
  obtain ⟨H', hLe, hIn, hPF⟩ := hP.freeze
  obtain ⟨i0, hi0, hz0, hz1, hz2⟩ := info_parts infoRed
  have HIN := Lib.hid hIn
  have HPF := Lib.hid hPF
  clear hP hLe hIn hPF
  go_enter Tryd.func17, Tryd.ntmps17
  go_wp2_with fail
  refine (check_any H' g ds us HPF.out code who at_ hc hw W HIN.out).mono ?_
  rintro e W1 ⟨⟨n, hn, rfl, hno⟩ | ⟨d, hck, rfl⟩, hb1⟩
  · have hne : (n != 0) = true := by simpa using hn
    have HF := Lib.hid (RedPost.same (m := 0) hn HP.out (hb1.alloc hb1.size (.cells #[.string ⟨#[]⟩, .string ⟨#[]⟩, .int .i64 0, .int .i64 0, .int .i64 0, .int .i64 0] 44)) (fun d h _ => absurd h (hno d)))
    clear hn hno hb1
    go_wp2_with fail
    go_ret2
    exact HF.out
  · obtain ⟨H2, hl2, hbx, hin2⟩ := (HIN.out.below hb1).put (.cells #[.string d.code, .string d.offer, .int .i64 d.most, .int .i64 d.each, .int .i64 d.first, .int .i64 d.last] 44)
    have HB2 := Lib.hid (hb1.alloc hb1.size (.cells #[.string d.code, .string d.offer, .int .i64 d.most, .int .i64 d.each, .int .i64 d.first, .int .i64 d.last] 44))
    have HP2 := Lib.hid (HPF.out.le hl2)
    have HBX := Lib.hid hbx
    have HIN2 := Lib.hid hin2
    have HCK := Lib.hid hck
    have HSM : Hid (∀ (n m : Int) W', n ≠ 0 → Below W.heap.size W W' → (canR us d code who at_ → 5000 ≤ us.length) → RedPost H g ds us code who at_ W (.returned (.tuple #[.int .i64 m, .int .i64 n])) W') := fun n m W' hn hb h => RedPost.same hn HP.out hb (fun d' hd' => by rw [hd'.one HCK.out]; exact h)
    clear hl2 hbx hin2 hck hb1
    go_upto_region 4 with (fail)
    generalize hgq : W1.heap.size = q at HBX
    generalize W1.alloc _ = W2 at HB2 HIN2
    clear hgq
    go_wp2_with fail
    refine (used_any H2 g ds us HP2.out code who W2 HIN2.out).mono ?_
    rintro e W3 ⟨rfl, hb3⟩
    have HB3 := Lib.hid (HB2.out.trans (hb3.mono HB2.out.size))
    have HIN3 := Lib.hid (HIN2.out.below hb3)
    clear hb3
    obtain ⟨z0, z1, z2, z3, z4, z5⟩ := frz6 HIN3.out HBX.out
    have h1 := allN_le us code
    have h2 := ownN_le us code who
    have hl2s := HP.out.l2
    have HCAN : Hid (canR us d code who at_ ↔ d.first ≤ at_ ∧ at_ < d.last ∧ (allN us code : Int) < d.most ∧ (ownN us code who : Int) < d.each) := Iff.rfl
    generalize allN us code = t1 at *
    generalize ownN us code who = t2 at *
    by_cases a1 : at_ < d.first
    · have a1' : decide (at_ < d.first) = true := by simpa using a1
      go_wp2_with fail
      go_ret2
      exact HSM.out _ _ _ (by omega) HB3.out (fun h => by rw [HCAN.out] at h; omega)
    · have a1' : decide (at_ < d.first) = false := by simpa using a1
      by_cases a2 : d.last ≤ at_
      · have a2' : decide (d.last ≤ at_) = true := by simpa using a2
        go_wp2_with fail
        go_ret2
        exact HSM.out _ _ _ (by omega) HB3.out (fun h => by rw [HCAN.out] at h; omega)
      · have a2' : decide (d.last ≤ at_) = false := by simpa using a2
        by_cases a3 : d.most ≤ t1
        · have a3' : decide (d.most ≤ t1) = true := by simpa using a3
          go_wp2_with fail
          go_ret2
          exact HSM.out _ _ _ (by omega) HB3.out (fun h => by rw [HCAN.out] at h; omega)
        · have a3' : decide (d.most ≤ t1) = false := by simpa using a3
          by_cases a4 : d.each ≤ t2
          · have a4' : decide (d.each ≤ t2) = true := by simpa using a4
            go_wp2_with fail
            go_ret2
            exact HSM.out _ _ _ (by omega) HB3.out (fun h => by rw [HCAN.out] at h; omega)
          · have a4' : decide (d.each ≤ t2) = false := by simpa using a4
            have HBS3 := Lib.hid (HP.out.below HB3.out)
            obtain ⟨bm, n, v, hg, hM, hO⟩ := HBS3.out.ex
            obtain ⟨Ah, caph, rfl, hch⟩ := hO.slice
            have x0 : W3.cell? ⟨g, 0, none⟩ = some (.map (some bm)) := by simp [World.cell?, hg]
            have x1 : W3.cell? ⟨g, 1, none⟩ = some (.slice Ah us.length caph) := by simp [World.cell?, hg]
            have HG := Lib.hid hg
            have HO := Lib.hid hO
            have hgl : g < W3.heap.size := lt_of_heap hg
            have hgl1 : g + 1 ≤ W3.heap.size := hgl
            clear hg hM hO
            by_cases a5 : 5000 ≤ us.length
            · have a5' : decide ((5000 : Int) ≤ us.length) = true := by simp; omega
              go_wp2_with fail
              go_ret2
              exact HSM.out _ _ _ (by omega) HB3.out (fun _ => a5)
            · have a5' : decide ((5000 : Int) ≤ us.length) = false := by simp; omega
              have hls : us.length < 5000 := by omega
              have HY : Hid (canR us d code who at_) := HCAN.out.2 ⟨by omega, by omega, by omega, by omega⟩
              have HST := Lib.hid (fun v' W' (d : UseD) ho hb => HBS3.out.redeemed (W' := W') (v' := v') (d := d) HG.out ho hb hls)
              clear HCAN a1 a2 a3 a4 a5
              go_wp2_with (at_builtin; refine wpList_app_at rfl _ _ 46 rfl (g + 1) 49 i0 (.agg #[.int .i64 0, .string ⟨#[]⟩, .string ⟨#[]⟩, .int .i64 0, .int .i64 0]) 5 56 Tryd.underlying46 hi0 hz0 hz1 hz2 rfl (by decide) fU _ us rfl HO.out ⟨us.length + 1, code, who, at_, -1⟩ #[.int .i64 (us.length + 1), .string code, .string who, .int .i64 at_, .int .i64 (-1)] 49 rfl rfl (by simp [Value.oneCell']) (by omega) (by omega) hgl1 ?_; intro v1 w2 o1 g1 b1 at1; obtain ⟨A1, cap1, rfl, hc1⟩ := o1.slice; obtain ⟨hw2, hps, hbl⟩ := HST.out _ _ _ o1 b1; have y1 : w2.cell? ⟨g, 1, none⟩ = some (.slice Ah us.length caph) := (by simp [World.cell?, hw2]); have fy : w2.frozen? ⟨g, 1, none⟩ = false := (by simp [World.frozen?, hw2]); simp only [List.length_append, List.length_cons, List.length_nil, Nat.zero_add] at hps hbl; have HPS := Lib.hid hps; have HBL := Lib.hid ((HB3.out.mono (Nat.le_of_lt HP.out.lt)).trans hbl); clear x0 x1 hw2 hps hbl o1 g1 b1 at1 HST)
              go_ret2
              exact ⟨_, HPS.out, HBL.out, Or.inr ⟨d, _, _, HCK.out, HY.out, rfl, rfl⟩⟩
end Go.Proofs.YtecbejmeejepmaaDoor
