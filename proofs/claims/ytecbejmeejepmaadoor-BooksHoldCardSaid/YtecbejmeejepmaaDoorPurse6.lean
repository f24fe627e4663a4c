/- Purses: a hold more. -/
import Derived.Test.YtecbejmeejepmaaDoorPurse5
namespace Go.Proofs.YtecbejmeejepmaaDoor
set_option linter.unusedVariables false
open Go.RowKit

def ResPost (H : Frz) (g : Nat) (ds : List BudgetD) (hs : List HoldD) (now at_ : Int) (key : ByteArray) (cents until_ : Int) (W : World) (W' : World) : Prop :=
  ∃ hs' now', PS H W' g ds hs' now' ∧ Below g W W' ∧ ((hs' = hs ∧ now' = now) ∨ (now' = at_ ∧ ∃ d, d ∈ ds ∧ sameKey key d = true ∧ takenN hs key at_ + cents ≤ pacedN d at_ ∧ ∃ no, hs' = hs ++ [⟨no, key, cents, at_, until_, 1⟩]))
theorem ResPost.same {H : Frz} {W W' : World} {g : Nat} {ds : List BudgetD} {hs : List HoldD} {now at_ : Int} {key : ByteArray} {cents until_ : Int} (h : PS H W g ds hs now) (hb : Below W.heap.size W W') : ResPost H g ds hs now at_ key cents until_ W W' :=
  ⟨hs, now, h.below hb, hb.mono (Nat.le_of_lt h.lt), Or.inl ⟨rfl, rfl⟩⟩
theorem grown_set (W : World) (p : Addr) (v : Value) : W.grownBy (W.setCell p v) (some p.block) :=
  ⟨rfl, rfl, rfl, by simp [World.setCell], fun b _ hne => Below.heap_setCell W p v b (fun e => hne (by rw [e]))⟩
/-- The purse behind the stores of Reserve. -/
theorem PS.reserved {H : Frz} {W W' : World} {g : Nat} {ds : List BudgetD} {hs : List HoldD} {now at_ : Int} (h : PS H W g ds hs now) {A : Option Addr} {c : Nat} {v v' : Value} (hg : W.heap[g]? = some (.cells #[.slice A ds.length c, v, .int .i64 now] 86 (0, 0)))
    {d : HoldD} (ho : Orow W' (g + 1) 63 6 fH v' (hs ++ [d])) (hb : Below (g + 1) (W.setCell ⟨g, 2, none⟩ (.int .i64 at_)) W') (hl : hs.length < 2000) :
    (W'.heap[g]? = some (.cells #[.slice A ds.length c, v, .int .i64 at_] 86 (0, 0))) ∧ PS H (W'.setCell ⟨g, 1, none⟩ v') g ds (hs ++ [d]) at_ ∧ Below g W (W'.setCell ⟨g, 1, none⟩ v') := by
  obtain ⟨A', cap', v0, hg', hR, hc, hO⟩ := h.ex
  rw [hg] at hg'
  simp at hg'
  obtain ⟨⟨rfl, rfl⟩, rfl⟩ := hg'
  have hW' : W'.heap[g]? = some (.cells #[.slice A ds.length c, v, .int .i64 at_] 86 (0, 0)) := by
    rw [hb.block g (by omega)]
    simp [World.setCell, Array.getElem?_modify, hg]
  have hB1 : Below g W (W'.setCell ⟨g, 1, none⟩ v') := ((((Below.refl g W).setCell (p := ⟨g, 2, none⟩) (Nat.le_refl _) (.int .i64 at_))).trans (hb.mono (by omega))).setCell (Nat.le_refl _) _
  refine ⟨hW', ⟨⟨A, c, v', ?_, hR, hc, ho.far (grown_set W' _ v') (by show g < g + 1; omega)⟩, h.l1, by simp; omega, h.under, h.fin.under h.under hB1⟩, hB1⟩
  simp [World.setCell, Array.getElem?_modify, hW']
set_option maxHeartbeats 4000000 in
set_option maxRecDepth 20000 in
theorem reserve_any (H : Frz) (g : Nat) (ds : List BudgetD) (hs : List HoldD) (now : Int) (W : World) (hP : PS H W g ds hs now) (hc : ∀ h ∈ hs, 0 ≤ h.cents ∧ h.cents ≤ 1000000000000) (hlim : ∀ d ∈ ds, limB d = true)
    (key : ByteArray) (cents at_ until_ : Int) (c1 : 1 ≤ cents) (c2 : cents ≤ 1000000000000) (h0 : 0 ≤ at_) (h9 : at_ ≤ 4321439) (u1 : at_ + 1 ≤ until_) (u2 : until_ ≤ 4321440) (hn : now ≤ at_) :
    Calls Tryd.prog 24 #[.pointer (some ⟨g, 0, none⟩), .string key, .int .i64 cents, .int .i64 at_, .int .i64 until_] W fun e W' => (∃ r, e = .returned r) ∧ ResPost H g ds hs now at_ key cents until_ W W' := by
  have HP := Lib.hid hP
  obtain ⟨H', hLe, hIn, hPF⟩ := hP.freeze
  obtain ⟨i0, hi0, hz0, hz1, hz2⟩ := info_parts infoHold
  have HIN := Lib.hid hIn
  have HPF := Lib.hid hPF
  have HC := Lib.hid hc
  have HL := Lib.hid hlim
  clear hP hLe hIn hPF hc hlim
  go_enter Tryd.func24, Tryd.ntmps24
  go_wp2_with fail
  refine (budgetOf_any H' g ds hs now HPF.out key W HIN.out).mono ?_
  rintro e W1 ⟨hof, hb1⟩
  rcases hof with ⟨hno, rfl⟩ | ⟨d, hd, hsk, rfl⟩
  · have HSM := Lib.hid (ResPost.same (at_ := at_) (key := key) (cents := cents) (until_ := until_) HP.out (hb1.alloc hb1.size (.cells #[.string ⟨#[]⟩, .int .i64 0, .int .i64 0, .int .i64 0, .bool false] 59)))
    clear hno hb1
    go_wp2_with fail
    go_ret2
    exact ⟨⟨_, rfl⟩, HSM.out⟩
  · have HD := Lib.hid hd
    have HSK := Lib.hid hsk
    have hin1 := HIN.out.below hb1
    obtain ⟨H2, hl2, hbx, hin2⟩ := hin1.put (.cells #[.string d.key, .int .i64 d.cents, .int .i64 d.first, .int .i64 d.last, .bool d.pace] 59)
    have hb2 := hb1.alloc hb1.size (.cells #[.string d.key, .int .i64 d.cents, .int .i64 d.first, .int .i64 d.last, .bool d.pace] 59)
    have HB2 := Lib.hid hb2
    have HP2 := Lib.hid (HP.out.below hb2)
    have HIN2 := Lib.hid hin2
    have HPF2 : Hid (PF H2 g ds hs now) := by
      obtain ⟨A, cap, Ah, caph, hg, r1, r2, r3⟩ := HPF.out
      exact ⟨A, cap, Ah, caph, hl2 _ _ hg, r1.le hl2, r2.le hl2, r3⟩
    obtain ⟨z0, z1, z2, z3, z4⟩ := frz5 hin2 hbx
    obtain ⟨A, cap, v, hg, _, _, hO⟩ := HP2.out.ex
    obtain ⟨Ah, caph, rfl, hch⟩ := hO.slice
    have HO := Lib.hid hO
    have HG := Lib.hid hg
    have x1 : (W1.alloc (.cells #[.string d.key, .int .i64 d.cents, .int .i64 d.first, .int .i64 d.last, .bool d.pace] 59)).cell? ⟨g, 1, none⟩ = some (.slice Ah hs.length caph) := by simp only [World.cell?, hg]; rfl
    have x2 : (W1.alloc (.cells #[.string d.key, .int .i64 d.cents, .int .i64 d.first, .int .i64 d.last, .bool d.pace] 59)).cell? ⟨g, 2, none⟩ = some (.int .i64 now) := by simp only [World.cell?, hg]; rfl
    have hgw : g < W1.heap.size := Nat.lt_of_lt_of_le HP.out.lt hb1.size
    have hl2s := HP.out.l2
    clear hl2 hin2 hb2 hbx hin1 hb1 hd hsk hg hO
    go_wp2_with fail
    refine (offWithin_any _ _ _ _).mono ?_
    rintro e w' ⟨rfl, rfl⟩
    rw [show (decide (1 ≤ cents) && decide (cents ≤ 1000000000000)) = true from by simp; omega]
    go_wp2_with fail
    refine (isMoment_any _ _).mono ?_
    rintro e w' ⟨rfl, rfl⟩
    rw [show (decide (0 ≤ at_) && decide (at_ ≤ 4321439)) = true from by simp; omega]
    go_wp2_with fail
    refine (offWithin_any _ _ _ _).mono ?_
    rintro e w' ⟨rfl, rfl⟩
    rw [show (decide (at_ + 1 ≤ until_) && decide (until_ ≤ 4321440)) = true from by simp; omega]
    go_wp2_with fail
    have hz2 : (W1.alloc (.cells #[.string d.key, .int .i64 d.cents, .int .i64 d.first, .int .i64 d.last, .bool d.pace] 59)).heap.size = W1.heap.size + 1 := World.size_alloc' _ _
    have HZ2 := Lib.hid hz2
    clear hz2
    generalize hq : W1.heap.size = q at *
    generalize W1.alloc (.cells #[.string d.key, .int .i64 d.cents, .int .i64 d.first, .int .i64 d.last, .bool d.pace] 59) = W2 at *
    have K0 := lift_cell z0
    have K1 := lift_cell z1
    have K2 := lift_cell z2
    have K3 := lift_cell z3
    have K4 := lift_cell z4
    have J1 := lift_cell x1
    clear z0 z1 z2 z3 z4 x1 x2
    by_cases hfull : 2000 ≤ hs.length
    · have hf : decide ((2000 : Int) ≤ hs.length) = true := by simp; omega
      (refine wp_region_det 18 92 (fun W => Below (W2).heap.size (W2) W) (by kernel_rfl) (by kernel_rfl) (by rfl) (Below.refl _ _).drew ?_; simp only [List.take_succ_cons, List.take_zero, List.drop_succ_cons, List.drop_zero])
      iterate 5 (refine detSeq_op rfl ?_ (fun W hW => ?_) ?_; rotate_left; (focus simp only [OpV]; go_simp; first | exact rfl | exact ⟨rfl, hW⟩))
      (refine detSeq_op rfl (.bool true) (fun W hW => ?_) ?_; focus (simp only [OpV]; go_simp; first | exact rfl | exact ⟨by rw [hf], hW⟩ | skip))
      iterate 1 (refine detSeq_op rfl ?_ (fun W hW => ?_) ?_; rotate_left; (focus simp only [OpV]; go_simp; first | exact rfl | exact ⟨rfl, hW⟩))
      iterate 10 (refine detSeq_no (by kernel_rfl) ?_)
      iterate 1 (refine detSeq_op rfl ?_ (fun W hW => ?_) ?_; rotate_left; (focus simp only [OpV]; go_simp; first | exact rfl | exact ⟨rfl, hW⟩))
      refine detSeq_nil (fun W3 hW3 => ?_)
      have HSM := Lib.hid (ResPost.same (at_ := at_) (key := key) (cents := cents) (until_ := until_) HP.out (HB2.out.trans (hW3.mono HB2.out.size)))
      clear K0 K1 K2 K3 K4 J1 hW3
      go_wp2_with fail
      go_ret2
      exact ⟨⟨_, rfl⟩, HSM.out⟩
    · have hf : decide ((2000 : Int) ≤ hs.length) = false := by simp; omega
      have hin := fun W (hW : Below W2.heap.size W2 W) => HIN2.out.below hW
      have htb := takenN_bd hs key at_ HC.out
      have htb2 : takenN hs key at_ ≤ 2000000000000000 := by have := htb.2; omega
      have hpb := pacedN_bd d at_ (HL.out d HD.out) h0
      have hwrap : IntKind.i64.wrap (takenN hs key at_ + cents) = takenN hs key at_ + cents := IntWalk.i64_in _ (by omega)
      (refine wp_region_det 18 92 (fun W => Below (W2).heap.size (W2) W) (by kernel_rfl) (by kernel_rfl) (by rfl) (Below.refl _ _).drew ?_; simp only [List.take_succ_cons, List.take_zero, List.drop_succ_cons, List.drop_zero])
      iterate 5 (refine detSeq_op rfl ?_ (fun W hW => ?_) ?_; rotate_left; (focus simp only [OpV]; go_simp; first | exact rfl | exact ⟨rfl, hW⟩))
      (refine detSeq_op rfl (.bool false) (fun W hW => ?_) ?_; focus (simp only [OpV]; go_simp; first | exact rfl | exact ⟨by rw [hf], hW⟩ | skip))
      iterate 1 (refine detSeq_op rfl ?_ (fun W hW => ?_) ?_; rotate_left; (focus simp only [OpV]; go_simp; first | exact rfl | exact ⟨rfl, hW⟩))
      iterate 3 (refine detSeq_yes (by kernel_rfl) ?_ (fun W hW => ?_) ?_; rotate_left; (focus simp only [OpV]; go_simp; first | exact rfl | exact ⟨rfl, hW⟩))
      (refine detSeq_yes (by kernel_rfl) ?_ (fun W hW => ?_) ?_; rotate_left; focus (simp only [OpV]; go_simp; refine (taken_any H2 g ds hs now HPF2.out HC.out key at_ W (hin W hW)).mono ?_; rintro e w' ⟨rfl, hb⟩; refine ⟨_, rfl, ?_, det_back hW hb⟩; exact rfl))
      iterate 1 (refine detSeq_yes (by kernel_rfl) ?_ (fun W hW => ?_) ?_; rotate_left; (focus simp only [OpV]; go_simp; first | exact rfl | exact ⟨rfl, hW⟩))
      (refine detSeq_yes (by kernel_rfl) (.int .i64 (takenN hs key at_ + cents)) (fun W hW => ?_) ?_; focus (simp only [OpV]; go_simp; first | exact hW | exact ⟨by rw [hwrap], hW⟩ | skip))
      iterate 2 (refine detSeq_yes (by kernel_rfl) ?_ (fun W hW => ?_) ?_; rotate_left; (focus simp only [OpV]; go_simp; first | exact rfl | exact ⟨rfl, hW⟩))
      (refine detSeq_yes (by kernel_rfl) ?_ (fun W hW => ?_) ?_; rotate_left; focus (simp only [OpV]; go_simp; refine (paced_any d at_ W (HL.out d HD.out) h0 h9).mono ?_; rintro e w' ⟨rfl, hb⟩; refine ⟨_, rfl, ?_, det_back hW hb⟩; exact rfl))
      by_cases hgt : pacedN d at_ < takenN hs key at_ + cents
      · have hdg : decide (pacedN d at_ < takenN hs key at_ + cents) = true := by simp; omega
        (refine detSeq_yes (by kernel_rfl) (.bool true) (fun W hW => ?_) ?_; focus (simp only [OpV]; go_simp; first | exact hW | exact ⟨by rw [hdg], hW⟩ | skip))
        iterate 1 (refine detSeq_op rfl ?_ (fun W hW => ?_) ?_; rotate_left; (focus simp only [OpV]; go_simp; first | exact rfl | exact ⟨rfl, hW⟩))
        refine detSeq_nil (fun W3 hW3 => ?_)
        have HSM := Lib.hid (ResPost.same (at_ := at_) (key := key) (cents := cents) (until_ := until_) HP.out (HB2.out.trans (hW3.mono HB2.out.size)))
        clear K0 K1 K2 K3 K4 J1 hW3
        generalize takenN hs key at_ = tk at *
        generalize pacedN d at_ = pc at *
        go_wp2_with fail
        go_ret2
        exact ⟨⟨_, rfl⟩, HSM.out⟩
      · have hdg : decide (pacedN d at_ < takenN hs key at_ + cents) = false := by simp; omega
        (refine detSeq_yes (by kernel_rfl) (.bool false) (fun W hW => ?_) ?_; focus (simp only [OpV]; go_simp; first | exact hW | exact ⟨by rw [hdg], hW⟩ | skip))
        iterate 1 (refine detSeq_op rfl ?_ (fun W hW => ?_) ?_; rotate_left; (focus simp only [OpV]; go_simp; first | exact rfl | exact ⟨rfl, hW⟩))
        refine detSeq_nil (fun W3 hW3 => ?_)
        have HLE : Hid (takenN hs key at_ + cents ≤ pacedN d at_) := Int.not_lt.1 hgt
        have HP3 := Lib.hid (HP2.out.below hW3)
        have HB3 := Lib.hid (HB2.out.trans (hW3.mono HB2.out.size))
        have hg3 : W3.heap[g]? = some (.cells #[.slice A ds.length cap, .slice Ah hs.length caph, .int .i64 now] 86 (0, 0)) := (hW3.block g HP2.out.lt).trans HG.out
        have x0 : W3.cell? ⟨g, 0, none⟩ = some (.slice A ds.length cap) := by simp [World.cell?, hg3]
        have x1 : W3.cell? ⟨g, 1, none⟩ = some (.slice Ah hs.length caph) := by simp [World.cell?, hg3]
        have x2 : W3.cell? ⟨g, 2, none⟩ = some (.int .i64 now) := by simp [World.cell?, hg3]
        have f1 : W3.frozen? ⟨g, 1, none⟩ = false := by simp [World.frozen?, hg3]
        have f2 : W3.frozen? ⟨g, 2, none⟩ = false := by simp [World.frozen?, hg3]
        have HG3 := Lib.hid hg3
        have HO3 := Lib.hid ((HO.out.below hW3).far (grown_set W3 ⟨g, 2, none⟩ (.int .i64 at_)) (by show g < g + 1; omega))
        have hls : hs.length < 2000 := by omega
        have hg4 : g + 1 ≤ (W3.setCell ⟨g, 2, none⟩ (.int .i64 at_)).heap.size := by have := lt_of_heap hg3; simp [World.setCell]; omega
        clear K0 K1 K2 K3 K4 J1 hW3 hg3
        generalize hdtk : takenN hs key at_ = tk at *
        generalize hdpc : pacedN d at_ = pc at *
        have HTK := Lib.hid hdtk
        have HPC := Lib.hid hdpc
        clear hdtk hdpc
        go_upto_region 11 with (fail)
        have hg5 : (W3.setCell ⟨g, 2, none⟩ (.int .i64 at_)).heap[g]? = some (.cells #[.slice A ds.length cap, .slice Ah hs.length caph, .int .i64 at_] 86 (0, 0)) := by simp [World.setCell, Array.getElem?_modify, HG3.out]
        have HST := Lib.hid (fun v' W' (d : HoldD) ho hb => HP3.out.reserved (at_ := at_) (W' := W') (v' := v') (d := d) HG3.out ho hb hls)
        clear x0 x1 x2 f1 f2
        generalize W3.setCell ⟨g, 2, none⟩ (.int .i64 at_) = W4 at *
        have x0 : W4.cell? ⟨g, 0, none⟩ = some (.slice A ds.length cap) := by simp [World.cell?, hg5]
        have x1 : W4.cell? ⟨g, 1, none⟩ = some (.slice Ah hs.length caph) := by simp [World.cell?, hg5]
        have hgl : g < W4.heap.size := lt_of_heap hg5
        clear hg5
        go_wp2_with (at_builtin; refine wpList_app_at rfl _ _ 60 rfl (g + 1) 63 i0 (.agg #[.int .i64 0, .string ⟨#[]⟩, .int .i64 0, .int .i64 0, .int .i64 0, .int .i64 0]) 6 56 Tryd.underlying60 hi0 hz0 hz1 hz2 rfl (by decide) fH _ hs rfl HO3.out ⟨hs.length + 1, key, cents, at_, until_, 1⟩ #[.int .i64 (hs.length + 1), .string key, .int .i64 cents, .int .i64 at_, .int .i64 until_, .int .i64 1] 63 rfl rfl (by simp [Value.oneCell']) (by omega) (by omega) hg4 ?_; intro v1 w2 o1 g1 b1 at1; obtain ⟨A1, cap1, rfl, hc1⟩ := o1.slice; obtain ⟨hw2, hps, hbl⟩ := HST.out _ _ _ o1 b1; have y1 : w2.cell? ⟨g, 1, none⟩ = some (.slice Ah hs.length caph) := (by simp [World.cell?, hw2]); have fy : w2.frozen? ⟨g, 1, none⟩ = false := (by simp [World.frozen?, hw2]); simp only [List.length_append, List.length_cons, List.length_nil, Nat.zero_add] at hps hbl; have HPS := Lib.hid hps; have HBL := Lib.hid ((HB3.out.mono (Nat.le_of_lt HP.out.lt)).trans hbl); clear x0 x1 hw2 hps hbl o1 g1 b1 at1 HST)
        go_ret2
        exact ⟨⟨_, rfl⟩, _, _, HPS.out, HBL.out, Or.inr ⟨rfl, d, HD.out, HSK.out, by rw [HTK.out, HPC.out]; exact HLE.out, _, rfl⟩⟩
end Go.Proofs.YtecbejmeejepmaaDoor
