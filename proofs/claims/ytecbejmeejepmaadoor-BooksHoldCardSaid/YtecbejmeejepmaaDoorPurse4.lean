/- Purses: all holds, with their states at the purse's moment. -/
import Derived.Test.YtecbejmeejepmaaDoorPurse3
import Derived.Test.YtecbejmeejepmaaDoorCloneHold
import Derived.Test.YtecbejmeejepmaaDoorDet
namespace Go.Proofs.YtecbejmeejepmaaDoor
set_option linter.unusedVariables false
open Go.RowKit

def stH (now : Int) (h : HoldD) : HoldD := { h with state := stN h now }
def mixH (now : Int) (hs : List HoldD) (i : Nat) : List HoldD := (hs.take i).map (stH now) ++ hs.drop i
theorem mixH_len (now : Int) (hs : List HoldD) (i : Nat) : (mixH now hs i).length = hs.length := by simp [mixH]; omega
theorem mixH_zero (now : Int) (hs : List HoldD) : mixH now hs 0 = hs := by simp [mixH]
theorem mixH_all (now : Int) (hs : List HoldD) : mixH now hs hs.length = hs.map (stH now) := by simp [mixH]
theorem mixH_at (now : Int) (hs : List HoldD) (i : Nat) (h : i < hs.length) (h' : i < (mixH now hs i).length) : (mixH now hs i)[i] = hs[i] := by
  have e : (mixH now hs i)[i]? = some hs[i] := by
    unfold mixH
    rw [List.getElem?_append_right (by simp; omega)]
    simp [show min i hs.length = i from by omega, h]
  rw [List.getElem?_eq_getElem h'] at e
  exact Option.some.inj e
theorem mixH_set (now : Int) (hs : List HoldD) (i : Nat) (h : i < hs.length) : (mixH now hs i).set i (stH now hs[i]) = mixH now hs (i + 1) := by
  unfold mixH
  have e : ((hs.take i).map (stH now)).length = i := by simp; omega
  rw [List.set_append_right _ _ (by omega), e, Nat.sub_self, List.drop_eq_getElem_cons h, List.set_cons_zero, List.take_succ_eq_append_getElem h, List.map_append, List.append_assoc]
  rfl
theorem fH_one (d : HoldD) (m : Nat) : (fH d m).oneCell' = true := by
  unfold fH
  split <;> rfl
theorem heap6 {w : World} {g : Nat} {x0 x1 x2 x3 x4 x5 : Value} {T : TypeId} (e : w.heap[g]? = some (.cells #[x0, x1, x2, x3, x4, x5] T (0, 0))) :
    w.cell? ⟨g, 0, none⟩ = some x0 ∧ w.cell? ⟨g, 1, none⟩ = some x1 ∧ w.cell? ⟨g, 2, none⟩ = some x2 ∧ w.cell? ⟨g, 3, none⟩ = some x3 ∧ w.cell? ⟨g, 4, none⟩ = some x4 ∧ w.cell? ⟨g, 5, none⟩ = some x5 := by
  simp [World.cell?, e]
def HoldsPost (w : World) (hs : List HoldD) (e : Ending) (w' : World) : Prop := (∃ v, e = .returned v ∧ Orow w' w.heap.size 63 6 fH v hs) ∧ Below w.heap.size w w'
set_option maxHeartbeats 4000000 in
set_option maxRecDepth 20000 in
theorem holds_any (H : Frz) (g : Nat) (ds : List BudgetD) (hs : List HoldD) (now : Int) (hP : PF H g ds hs now) (w : World) (hH : H.In w) :
    Calls Tryd.prog 25 #[.pointer (some ⟨g, 0, none⟩)] w (HoldsPost w (hs.map (stH now))) := by
  obtain ⟨A, cap, Ah, caph, hg, hA, hAh, l1, l2, l3, l4⟩ := hP
  obtain ⟨x0, x1, x2⟩ := frz3 hH hg
  have HR := Lib.hid hAh
  have HH := Lib.hid hH
  have HG := Lib.hid hg
  clear hg hA hAh hH
  go_enter Tryd.func25, Tryd.ntmps25
  go_wp2_with fail
  clear x0 x1 x2
  refine (clone_Hold H fH hs (fun d _ m => fH_one d m) Ah caph w HH.out HR.out l4).mono ?_
  rintro e W1 ⟨⟨v, rfl, hO⟩, hb1⟩
  obtain ⟨A1, cap1, rfl, hcap⟩ := hO.slice
  have HO : Hid (Orow W1 w.heap.size 63 6 fH (.slice A1 hs.length cap1) (mixH now hs 0)) := by
    show Orow _ _ _ _ _ _ _
    rw [mixH_zero]; exact hO
  have HB1 := Lib.hid hb1
  clear hO hb1
  go_wp2_with fail
  go_loopw [13] (fun t wr => ∃ i : Nat, i ≤ hs.length ∧ t = .int .i64 i ∧ Hid (Orow wr w.heap.size 63 6 fH (.slice A1 hs.length cap1) (mixH now hs i)) ∧ Hid (Below w.heap.size w wr)) (fun t _ => hs.length - (intOf t).toNat)
  case atStart => exact ⟨0, by omega, rfl, HO, HB1⟩
  case round =>
    obtain ⟨i, hi, rfl, ho, hb⟩ := hrel
    by_cases hlt : i < hs.length
    · have hml : i < (mixH now hs i).length := by rw [mixH_len]; exact hlt
      obtain ⟨q, cp, rest, hv, hle, hB, hq, hm, hK, hr⟩ := ho.out.form (fun e => by rw [e] at hml; simp at hml)
      simp only [Value.slice.injEq] at hv
      obtain ⟨rfl, hlen, rfl⟩ := hv
      clear hlen
      have hc := fun j hj => hK.cell i j hml hj
      rw [mixH_at now hs i hlt hml] at hc
      have c0 : wr.cell? ⟨q, i * 6, none⟩ = some (.int .i64 hs[i].no) := hc 0 (by omega)
      have c1 : wr.cell? ⟨q, i * 6 + 1, none⟩ = some (.string hs[i].key) := hc 1 (by omega)
      have c2 : wr.cell? ⟨q, i * 6 + 2, none⟩ = some (.int .i64 hs[i].cents) := hc 2 (by omega)
      have c3 : wr.cell? ⟨q, i * 6 + 3, none⟩ = some (.int .i64 hs[i].at_) := hc 3 (by omega)
      have c4 : wr.cell? ⟨q, i * 6 + 4, none⟩ = some (.int .i64 hs[i].until_) := hc 4 (by omega)
      have c5 : wr.cell? ⟨q, i * 6 + 5, none⟩ = some (.int .i64 hs[i].state) := hc 5 (by omega)
      have HK := Lib.hid hK
      have HRR := Lib.hid hr
      have hin := HH.out.below hb.out
      obtain ⟨y0, y1, y2⟩ := frz3 (hin.alloc (.cells #[.int .i64 hs[i].no, .string hs[i].key, .int .i64 hs[i].cents, .int .i64 hs[i].at_, .int .i64 hs[i].until_, .int .i64 hs[i].state] 63)) HG.out
      have hglt : g < wr.heap.size := (Array.getElem?_eq_some_iff.1 (hin _ _ HG.out)).1
      have hset := Lib.hid (mixH_set now hs i hlt)
      have HAT := Lib.hid (mixH_at now hs i hlt hml)
      have HB2 := Lib.hid (hb.out.alloc hb.out.size (.cells #[.int .i64 hs[i].no, .string hs[i].key, .int .i64 hs[i].cents, .int .i64 hs[i].at_, .int .i64 hs[i].until_, .int .i64 hs[i].state] 63))
      have HK2 := Lib.hid (hK.keep ((Below.refl _ _).alloc (Nat.le_refl _) (.cells #[.int .i64 hs[i].no, .string hs[i].key, .int .i64 hs[i].cents, .int .i64 hs[i].at_, .int .i64 hs[i].until_, .int .i64 hs[i].state] 63)))
      generalize hd : hs[i] = d at c0 c1 c2 c3 c4 c5 y0 y1 y2 HB2 HK2 HAT hset
      clear hc hr hK hin hle hd
      go_wp2_with fail
      clear c0 c1 c2 c3 c4 c5
      have hq2 : q < wr.heap.size := hq
      obtain ⟨z0, z1, z2, z3, z4, z5⟩ := heap6 (w := wr.alloc (.cells #[.int .i64 d.no, .string d.key, .int .i64 d.cents, .int .i64 d.at_, .int .i64 d.until_, .int .i64 d.state] 63)) (g := wr.heap.size) (heap_at rfl)
      have hz2 : (wr.alloc (.cells #[.int .i64 d.no, .string d.key, .int .i64 d.cents, .int .i64 d.at_, .int .i64 d.until_, .int .i64 d.state] 63)).heap.size = wr.heap.size + 1 := World.size_alloc' _ _
      have HZ2 := Lib.hid hz2
      clear hz2
      generalize wr.alloc (.cells #[.int .i64 d.no, .string d.key, .int .i64 d.cents, .int .i64 d.at_, .int .i64 d.until_, .int .i64 d.state] 63) = W2 at *
      have K0 := lift_cell z0
      have K1 := lift_cell z1
      have K2 := lift_cell z2
      have K3 := lift_cell z3
      have K4 := lift_cell z4
      have K5 := lift_cell z5
      have J2 := lift_cell y2
      clear y0 y1 y2 z0 z1 z2 z3 z4 z5
      (refine wp_region_det 8 30 (fun W => Below (W2).heap.size (W2) W) (by kernel_rfl) (by kernel_rfl) (by rfl) (Below.refl _ _).drew ?_; simp only [List.take_succ_cons, List.take_zero, List.drop_succ_cons, List.drop_zero])
      iterate 7 (refine detSeq_op rfl ?_ (fun W hW => ?_) ?_; rotate_left; (focus simp only [OpV]; go_simp; first | exact rfl | exact ⟨rfl, hW⟩))
      (refine detSeq_op rfl ?_ (fun W hW => ?_) ?_; rotate_left; focus (simp only [OpV]; go_simp; refine (stateAt_any d now W).mono ?_; rintro e w' ⟨rfl, hb⟩; refine ⟨_, rfl, ?_, det_back hW hb⟩; exact rfl))
      refine detSeq_nil (fun W3 hW3 => ?_)
      clear K0 K1 K2 K3 K4 K5 J2
      have hK3 := HK2.out.keep hW3
      have u5 : W3.cell? ⟨q, i * 6 + 5, none⟩ = some (fH (mixH now hs i)[i] 5) := hK3.cell i 5 hml (by omega)
      have f5 := hK3.frozen (i * 6 + 5)
      have hK4 := Lib.hid (hK3.upd i 5 hml (by omega) (d' := stH now d) (x := .int .i64 (stN d now)) rfl (fun m hm hne => by
        rw [HAT.out]
        have hm5 : m = 0 ∨ m = 1 ∨ m = 2 ∨ m = 3 ∨ m = 4 := by omega
        rcases hm5 with rfl | rfl | rfl | rfl | rfl <;> rfl))
      have HB3 := Lib.hid (((HB2.out.trans (hW3.mono HB2.out.size)).setCell (p := ⟨q, i * 6 + 5, none⟩) hB (.int .i64 (stN d now))))
      have HK5 := Lib.hid (fun (h : KBlk (W3.setCell ⟨q, i * 6 + 5, none⟩ (.int .i64 (stN d now))) q 63 6 fH ((mixH now hs i).set i (stH now d)) rest) => Orow.of_blk (B := w.heap.size) (cap := cap1) h hB hm (by rw [List.length_set, mixH_len]; exact hcap) (by rw [List.length_set]; exact HRR.out))
      have HO3 : Hid (Orow (W3.setCell ⟨q, i * 6 + 5, none⟩ (.int .i64 (stN d now))) w.heap.size 63 6 fH (.slice (some ⟨q, 0, none⟩) hs.length cap1) (mixH now hs (i + 1))) := by
        have := HK5.out hK4.out
        rw [hset.out, mixH_len] at this
        exact this
      clear hK3 hK4 HK5 hW3
      generalize stN d now = sd at HB3 HO3
      generalize fH (mixH now hs i)[i] 5 = uu at u5
      go_wp2_with fail
      go_roundw
      case rel => exact ⟨i + 1, by omega, by go_num, HO3, HB3⟩
      case measure => simp [intOf]; omega
    · have hie : i = hs.length := by omega
      subst hie
      go_wp2_with fail
      go_ret
      refine ⟨⟨_, rfl, ?_⟩, hb.out⟩
      have := ho.out
      rw [mixH_all] at this
      exact this
end Go.Proofs.YtecbejmeejepmaaDoor
