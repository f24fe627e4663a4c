/- Texts of this claim, put together: Want, Ask, WishL. -/
import Derived.Test.YtmlpfbffecdepaaGreatDoorGJ
import Derived.Test.YtmlpfbffecdepaaGreatDoorGN
import Derived.Test.YtmlpfbffecdepaaGreatDoorGB
import Derived.Test.YtmlpfbffecdepaaGreatDoorGA
/- consent.wanted: what must be said. -/
namespace Go.Proofs.YtmlpfbffecdepaaGreatDoor
set_option linter.unusedVariables false
open Go.RowKit
def wantF (t : TermD) (purp : ByteArray) (l : List StD) (at_ : Int) : List Int := (if (answerF (some t) purp l at_).why = 6 then [5] else []) ++ (if (allowF (upTo l at_) t purp at_).may = false then [1] else [])
set_option maxHeartbeats 4000000 in
set_option maxRecDepth 100000 in
theorem wanted_any (H : Frz) (A : Option Addr) (cap : Nat) (l : List StD) (t : TermD) (purp : ByteArray) (at_ : Int) (w : World) (hH : H.In w) (hR : Rw H A 8 fSt l) (hs : l.Pairwise fun a b => a.at_ ≤ b.at_) (hl : l.length ≤ 1000000) (hcap : l.length ≤ cap) (hbd : Bd l) (htb : TB t)
    (h0 : -1000000000000 ≤ at_) (h1 : at_ ≤ 1000000000000) :
    Calls Tryz.prog 39 #[.agg #[.string t.region, .int .i64 t.ch, .bool t.free, .int .i64 t.days, .int .i64 t.wait, .bool true, .string purp, .slice A l.length cap], .int .i64 at_] w fun e w' => ∃ v, e = .returned v ∧ Orow w' w.heap.size 3 1 fI v (wantF t purp l at_) ∧ Below w.heap.size w w' := by
  obtain ⟨i0, hi0, hz0, hz1, hz2⟩ := info_parts infoI
  obtain ⟨H1, le1, hb1, hin1⟩ := hH.put (.cells #[.string t.region, .int .i64 t.ch, .bool t.free, .int .i64 t.days, .int .i64 t.wait, .bool true, .string purp, .slice A l.length cap] 89)
  have HQ := Lib.hid hb1
  have hnb := new1 (w := w) (.cells #[.string t.region, .int .i64 t.ch, .bool t.free, .int .i64 t.days, .int .i64 t.wait, .bool true, .string purp, .slice A l.length cap] 89)
  obtain ⟨ib, hib⟩ : ∃ ib, ib = (w.alloc (.cells #[.string t.region, .int .i64 t.ch, .bool t.free, .int .i64 t.days, .int .i64 t.wait, .bool true, .string purp, .slice A l.length cap] 89)).heap.size := ⟨_, rfl⟩
  have HI0 : Hid (IR H1 ib (.slice none 0 0) [] w (w.alloc (.cells #[.string t.region, .int .i64 t.ch, .bool t.free, .int .i64 t.days, .int .i64 t.wait, .bool true, .string purp, .slice A l.length cap] 89))) := ⟨hin1, Orow.nil _ _ _ _ _, fun g hg => by simp [Value.ownBlock] at hg, hnb, by rw [hib]; exact hnb.size, by rw [hib]; exact Nat.le_refl _⟩
  have hul : (upTo l at_).length ≤ 1000000 := by have := (upTo_cut hs at_).1; omega
  have HUP := Lib.hid (fun W (hW : H1.In W) => upTo_any H1 A cap l at_ W hW (hR.le le1) hs hl hcap h0 h1)
  have HAL := Lib.hid (fun W (hW : H1.In W) => allowed_any H1 A cap (upTo l at_) t purp at_ W hW ((hR.le le1).upTo at_) hul (hbd.upTo at_) htb.1.1 htb.1.2 htb.2.1 htb.2.2)
  have HAN := Lib.hid (fun W (hW : H1.In W) => answer_some H1 A cap l t purp at_ W hW (hR.le le1) hs hl hcap hbd htb h0 h1)
  clear hH hR hs hl hcap hbd htb h0 h1 hul le1 hb1 hin1 hnb hib
  go_enter Tryz.func39, Tryz.ntmps39
  go_upto_region 2 with (fail)
  generalize w.alloc (.cells #[.string t.region, .int .i64 t.ch, .bool t.free, .int .i64 t.days, .int .i64 t.wait, .bool true, .string purp, .slice A l.length cap] 89) = W1 at *
  have hq5 := HI0.out.inn _ _ HQ.out
  have q0 : W1.cell? ⟨w.heap.size, 0, none⟩ = some (.string t.region) := cell_h hq5 0 rfl
  have q1 : W1.cell? ⟨w.heap.size, 1, none⟩ = some (.int .i64 t.ch) := cell_h hq5 1 rfl
  have q2 : W1.cell? ⟨w.heap.size, 2, none⟩ = some (.bool t.free) := cell_h hq5 2 rfl
  have q3 : W1.cell? ⟨w.heap.size, 3, none⟩ = some (.int .i64 t.days) := cell_h hq5 3 rfl
  have q4 : W1.cell? ⟨w.heap.size, 4, none⟩ = some (.int .i64 t.wait) := cell_h hq5 4 rfl
  have q5 : W1.cell? ⟨w.heap.size, 5, none⟩ = some (.bool true) := cell_h hq5 5 rfl
  have q6 : W1.cell? ⟨w.heap.size, 6, none⟩ = some (.string purp) := cell_h hq5 6 rfl
  have q7 : W1.cell? ⟨w.heap.size, 7, none⟩ = some (.slice A l.length cap) := cell_h hq5 7 rfl
  clear hq5
  go_wp2_with fail
  refine (HAN.out W1 HI0.out.inn).mono ?_
  rintro e WM ⟨rfl, hb⟩
  have HI := Lib.hid (HI0.out.below hb)
  have HWHY : Hid ((answerF (some t) purp l at_).why = (answerF (some t) purp l at_).why) := rfl
  clear q0 q1 q2 q3 q4 q5 q6 q7 hb HI0 HAN
  generalize hans : answerF (some t) purp l at_ = ans
  obtain ⟨am, ay, an⟩ := ans
  rw [show ansV ⟨am, ay, an⟩ = .agg #[.bool am, .int .i64 ay, .int .i64 an] from rfl]
  rw [hans] at HWHY
  have hf1 : ∀ W, (Instr.field 92 (.agg #[.bool am, .int .i64 ay, .int .i64 an]) 1).run Tryz.prog W = .ok (.int .i64 ay) W := fun W => by kernel_rfl
  have HANS := Lib.hid hans
  clear hans HWHY
  by_cases g6 : ay = 6
  · have k6 : (ay == 6) = true := by simpa using g6
    have HWHY : Hid ((if (answerF (some t) purp l at_).why = 6 then [5] else ([] : List Int)) = [5]) := by show _ = _; rw [HANS.out, if_pos g6]
    clear g6 HANS
    have HRow := Lib.hid HI.out.row
    have HST := Lib.hid (fun v' W' o g1 at1 => HI.out.app (v' := v') (W' := W') (zs' := ([] : List Int) ++ [5]) o g1 at1)
    have hB9 := HI.out.le
    clear HI
    go_wp2_with (at_builtin; refine wpList_app_at rfl _ _ 22 rfl ib 3 i0 (.int .i64 0) 1 8 Tryz.underlying22 hi0 hz0 hz1 hz2 rfl (by decide) fI _ ([] : List Int) rfl HRow.out 5 #[.int .i64 5] 3 rfl rfl (by simp [Value.oneCell']) (by simp) (by omega) hB9 ?_; intro v1 WM o1 g1 b1 at1; have HI := Lib.hid (HST.out _ _ o1 g1 at1); clear o1 g1 b1 at1 HST HRow hB9)
    have hq5 := HI.out.inn _ _ HQ.out
    have K0 := lift_cell (cell_h hq5 0 (v := .string t.region) rfl)
    have K1 := lift_cell (cell_h hq5 1 (v := .int .i64 t.ch) rfl)
    have K2 := lift_cell (cell_h hq5 2 (v := .bool t.free) rfl)
    have K3 := lift_cell (cell_h hq5 3 (v := .int .i64 t.days) rfl)
    have K4 := lift_cell (cell_h hq5 4 (v := .int .i64 t.wait) rfl)
    have K5 := lift_cell (cell_h hq5 5 (v := .bool true) rfl)
    have K6 := lift_cell (cell_h hq5 6 (v := .string purp) rfl)
    have K7 := lift_cell (cell_h hq5 7 (v := .slice A l.length cap) rfl)
    clear hq5
    (refine wp_region_det 10 30 (fun W => Below (WM).heap.size (WM) W) (by kernel_rfl) (by kernel_rfl) (by rfl) (Below.refl _ _).drew ?_; simp only [List.take_succ_cons, List.take_zero, List.drop_succ_cons, List.drop_zero])
    iterate 3 (refine detSeq_op rfl ?_ (fun W hW => ?_) ?_; rotate_left; (focus simp only [OpV]; go_simp; first | exact rfl | exact ⟨rfl, hW⟩))
    (refine detSeq_op rfl ?_ (fun W hW => ?_) ?_; rotate_left; focus (simp only [OpV]; go_simp; refine (HUP.out W (HI.out.inn.below hW)).mono ?_; rintro e w' ⟨rfl, hb⟩; refine ⟨_, rfl, ?_, det_back hW hb⟩; exact rfl))
    iterate 5 (refine detSeq_op rfl ?_ (fun W hW => ?_) ?_; rotate_left; (focus simp only [OpV]; go_simp; first | exact rfl | exact ⟨rfl, hW⟩))
    (refine detSeq_op rfl ?_ (fun W hW => ?_) ?_; rotate_left; focus (simp only [OpV]; go_simp; refine (HAL.out W (HI.out.inn.below hW)).mono ?_; rintro e w' ⟨rfl, hb⟩; refine ⟨_, rfl, ?_, det_back hW hb⟩; exact rfl))
    refine detSeq_nil (fun W9 hW9 => ?_)
    have HI9 := Lib.hid (HI.out.below hW9)
    clear K0 K1 K2 K3 K4 K5 K6 K7 hW9 HI
    have HVL : Hid (wantF t purp l at_ = [5] ++ if (allowF (upTo l at_) t purp at_).may = false then [1] else []) := by
      show _ = _
      unfold wantF
      rw [HWHY.out]
    generalize allowF (upTo l at_) t purp at_ = al at *
    obtain ⟨lm, ly, ln⟩ := al
    rw [show ansV ⟨lm, ly, ln⟩ = .agg #[.bool lm, .int .i64 ly, .int .i64 ln] from rfl]
    have hf2 : ∀ W, (Instr.field 92 (.agg #[.bool lm, .int .i64 ly, .int .i64 ln]) 0).run Tryz.prog W = .ok (.bool lm) W := fun W => by kernel_rfl
    have HI := HI9
    clear HI9
    cases lm with
    | true =>
      go_wp2_with fail
      go_ret
      refine ⟨_, rfl, ?_, HI.out.bel⟩
      rw [HVL.out]
      have := HI.out.row
      simpa using this.mono HI.out.hB
    | false =>
      have HRow := Lib.hid HI.out.row
      have HST := Lib.hid (fun v' W' o g1 at1 => HI.out.app (v' := v') (W' := W') (zs' := ([5] : List Int) ++ [1]) o g1 at1)
      have hB9 := HI.out.le
      clear HI
      go_wp2_with (at_builtin; refine wpList_app_at rfl _ _ 22 rfl ib 3 i0 (.int .i64 0) 1 8 Tryz.underlying22 hi0 hz0 hz1 hz2 rfl (by decide) fI _ ([5] : List Int) rfl HRow.out 1 #[.int .i64 1] 3 rfl rfl (by simp [Value.oneCell']) (by simp) (by omega) hB9 ?_; intro v1 WM o1 g1 b1 at1; have HI := Lib.hid (HST.out _ _ o1 g1 at1); clear o1 g1 b1 at1 HST HRow hB9)
      go_ret
      refine ⟨_, rfl, ?_, HI.out.bel⟩
      rw [HVL.out]
      exact HI.out.row.mono HI.out.hB
  · have k6 : (ay == 6) = false := by simpa using g6
    have HWHY : Hid ((if (answerF (some t) purp l at_).why = 6 then [5] else ([] : List Int)) = []) := by show _ = _; rw [HANS.out, if_neg g6]
    clear g6 HANS
    go_wp2_with fail
    have hq5 := HI.out.inn _ _ HQ.out
    have K0 := lift_cell (cell_h hq5 0 (v := .string t.region) rfl)
    have K1 := lift_cell (cell_h hq5 1 (v := .int .i64 t.ch) rfl)
    have K2 := lift_cell (cell_h hq5 2 (v := .bool t.free) rfl)
    have K3 := lift_cell (cell_h hq5 3 (v := .int .i64 t.days) rfl)
    have K4 := lift_cell (cell_h hq5 4 (v := .int .i64 t.wait) rfl)
    have K5 := lift_cell (cell_h hq5 5 (v := .bool true) rfl)
    have K6 := lift_cell (cell_h hq5 6 (v := .string purp) rfl)
    have K7 := lift_cell (cell_h hq5 7 (v := .slice A l.length cap) rfl)
    clear hq5
    (refine wp_region_det 10 30 (fun W => Below (WM).heap.size (WM) W) (by kernel_rfl) (by kernel_rfl) (by rfl) (Below.refl _ _).drew ?_; simp only [List.take_succ_cons, List.take_zero, List.drop_succ_cons, List.drop_zero])
    iterate 3 (refine detSeq_op rfl ?_ (fun W hW => ?_) ?_; rotate_left; (focus simp only [OpV]; go_simp; first | exact rfl | exact ⟨rfl, hW⟩))
    (refine detSeq_op rfl ?_ (fun W hW => ?_) ?_; rotate_left; focus (simp only [OpV]; go_simp; refine (HUP.out W (HI.out.inn.below hW)).mono ?_; rintro e w' ⟨rfl, hb⟩; refine ⟨_, rfl, ?_, det_back hW hb⟩; exact rfl))
    iterate 5 (refine detSeq_op rfl ?_ (fun W hW => ?_) ?_; rotate_left; (focus simp only [OpV]; go_simp; first | exact rfl | exact ⟨rfl, hW⟩))
    (refine detSeq_op rfl ?_ (fun W hW => ?_) ?_; rotate_left; focus (simp only [OpV]; go_simp; refine (HAL.out W (HI.out.inn.below hW)).mono ?_; rintro e w' ⟨rfl, hb⟩; refine ⟨_, rfl, ?_, det_back hW hb⟩; exact rfl))
    refine detSeq_nil (fun W9 hW9 => ?_)
    have HI9 := Lib.hid (HI.out.below hW9)
    clear K0 K1 K2 K3 K4 K5 K6 K7 hW9 HI
    have HVL : Hid (wantF t purp l at_ = [] ++ if (allowF (upTo l at_) t purp at_).may = false then [1] else []) := by
      show _ = _
      unfold wantF
      rw [HWHY.out]
    generalize allowF (upTo l at_) t purp at_ = al at *
    obtain ⟨lm, ly, ln⟩ := al
    rw [show ansV ⟨lm, ly, ln⟩ = .agg #[.bool lm, .int .i64 ly, .int .i64 ln] from rfl]
    have hf2 : ∀ W, (Instr.field 92 (.agg #[.bool lm, .int .i64 ly, .int .i64 ln]) 0).run Tryz.prog W = .ok (.bool lm) W := fun W => by kernel_rfl
    have HI := HI9
    clear HI9
    cases lm with
    | true =>
      go_wp2_with fail
      go_ret
      refine ⟨_, rfl, ?_, HI.out.bel⟩
      rw [HVL.out]
      have := HI.out.row
      simpa using this.mono HI.out.hB
    | false =>
      have HRow := Lib.hid HI.out.row
      have HST := Lib.hid (fun v' W' o g1 at1 => HI.out.app (v' := v') (W' := W') (zs' := ([] : List Int) ++ [1]) o g1 at1)
      have hB9 := HI.out.le
      clear HI
      go_wp2_with (at_builtin; refine wpList_app_at rfl _ _ 22 rfl ib 3 i0 (.int .i64 0) 1 8 Tryz.underlying22 hi0 hz0 hz1 hz2 rfl (by decide) fI _ ([] : List Int) rfl HRow.out 1 #[.int .i64 1] 3 rfl rfl (by simp [Value.oneCell']) (by simp) (by omega) hB9 ?_; intro v1 WM o1 g1 b1 at1; have HI := Lib.hid (HST.out _ _ o1 g1 at1); clear o1 g1 b1 at1 HST HRow hB9)
      go_ret
      refine ⟨_, rfl, ?_, HI.out.bel⟩
      rw [HVL.out]
      exact HI.out.row.mono HI.out.hB
end Go.Proofs.YtmlpfbffecdepaaGreatDoor

/- consent.Ask: what must be said. -/
namespace Go.Proofs.YtmlpfbffecdepaaGreatDoor
set_option linter.unusedVariables false
open Go.RowKit
def lastNo (ss : List StD) : Int := if h : ss.length = 0 then 0 else (ss[ss.length - 1]'(by omega)).no
def outS (no : Int) (kind : Int) (text purp region : ByteArray) (ch at_ : Int) (i : Nat) (w : Int) : StD := ⟨no + 1 + i, at_, kind, text, if ofCh w = true then ⟨#[]⟩ else purp, region, ch, w⟩
def outsF (no : Int) (kind : Int) (text purp region : ByteArray) (ch at_ : Int) (ws : List Int) : List StD := ws.mapIdx (outS no kind text purp region ch at_)
theorem outsF_len {no : Int} {kind : Int} {text purp region : ByteArray} {ch at_ : Int} {ws : List Int} : (outsF no kind text purp region ch at_ ws).length = ws.length := by simp [outsF]
theorem outsF_take {no : Int} {kind : Int} {text purp region : ByteArray} {ch at_ : Int} {ws : List Int} {i : Nat} (h : i < ws.length) : (outsF no kind text purp region ch at_ ws).take (i + 1) = (outsF no kind text purp region ch at_ ws).take i ++ [outS no kind text purp region ch at_ i ws[i]] := by
  rw [List.take_succ_eq_append_getElem (by rw [outsF_len]; exact h)]
  simp [outsF]
def askFin (ss outs : List StD) (no : Int) : Int × List StD := if 3000 < ss.length + outs.length ∨ 1000000 < no + outs.length then (12, []) else (0, outs)
def askNo (ps : List PurD) (ss : List StD) (kind : Int) (text purp region : ByteArray) (ch at_ : Int) : Int × List StD :=
  if allErr ps ss [⟨kind, text⟩] 1 purp region ch at_ ≠ 0 then (allErr ps ss [⟨kind, text⟩] 1 purp region ch at_, []) else
  if (askF ps ss kind text purp region ch at_).may = false then (0, []) else askFin ss (outsF (lastNo ss) kind text purp region ch at_ [3]) (lastNo ss)
def askYes (ps : List PurD) (ss : List StD) (kind : Int) (text purp region : ByteArray) (ch at_ : Int) : Int × List StD :=
  if allErr ps ss [⟨kind, text⟩] 1 purp region ch at_ ≠ 0 then (allErr ps ss [⟨kind, text⟩] 1 purp region ch at_, []) else
  if (askF ps ss kind text purp region ch at_).may = true then (0, []) else
  match termF ps purp region ch with
  | none => (16, [])
  | some t =>
    if (askF ps (ss ++ outsF (lastNo ss) kind text purp region ch at_ (wantF t purp (saidF ss kind text ch) at_)) kind text purp region ch at_).may = false ∧ (askF ps (ss ++ outsF (lastNo ss) kind text purp region ch at_ (wantF t purp (saidF ss kind text ch) at_)) kind text purp region ch at_).why ≠ 8 then (13, []) else
    askFin ss (outsF (lastNo ss) kind text purp region ch at_ (wantF t purp (saidF ss kind text ch) at_)) (lastNo ss)
def WishPost (w : World) (r : Int × List StD) (e : Ending) (w' : World) : Prop := ∃ v, e = .returned (.tuple #[v, .int .i64 r.1]) ∧ Orow w' w.heap.size 38 8 fSt v r.2 ∧ Below w.heap.size w w'
theorem WishPost.nil {w w' : World} {r : Int × List StD} {er : Int} (h : r = (er, [])) (hb : Below w.heap.size w w') : WishPost w r (.returned (.tuple #[.slice none 0 0, .int .i64 er])) w' := by
  subst h
  exact ⟨_, rfl, Orow.nil _ _ _ _ _, hb⟩
theorem set_at {w : World} {g m : Nat} {xs : Array Value} {T : TypeId} {fr : Nat × Nat} (h : w.heap[g]? = some (.cells xs T fr)) (v : Value) : (w.setCell ⟨g, m, none⟩ v).heap[g]? = some (.cells (xs.setIfInBounds m v) T fr) := by
  simp [World.setCell, Array.getElem?_modify, h]
theorem IG.setNew {D : Type} {T k : Nat} {f : D → Nat → Value} {H : Frz} {B : Nat} {v : Value} {ds : List D} {w W : World} (h : IG T k f H B v ds w W) {nb m : Nat} {x : Value} (hb : w.heap.size ≤ nb) (hv : v.ownBlock ≠ some nb) (hn : H nb = none) : IG T k f H B v ds w (W.setCell ⟨nb, m, none⟩ x) := by
  have hg : W.grownBy (W.setCell ⟨nb, m, none⟩ x) (some nb) := ⟨rfl, rfl, rfl, by simp [World.setCell], fun b _ hne => Below.heap_setCell W _ x b (fun e => hne (by rw [e]))⟩
  exact ⟨h.inn.setCell hn x, h.row.kept hg (Or.inr hv), h.own, h.bel.setCell hb x, h.hB, Nat.le_trans h.le hg.size⟩
theorem lastNo_bd {ps : List PurD} {ss : List StD} (h : sayErr idErr ps ss = 0) : 0 ≤ lastNo ss ∧ lastNo ss ≤ 1000000 := by
  unfold lastNo
  split
  · omega
  · have h1 := ((say_iff ps ss).1 h).2.2.2 _ (List.getElem_mem (l := ss) (n := ss.length - 1) (by omega))
    unfold stOne at h1
    split at h1
    · cases h1
    · omega
theorem wantF_len (t : TermD) (purp : ByteArray) (l : List StD) (at_ : Int) : (wantF t purp l at_).length ≤ 2 := by
  unfold wantF
  split <;> split <;> simp
theorem wantF_mem {t : TermD} {purp : ByteArray} {l : List StD} {at_ x : Int} (h : x ∈ wantF t purp l at_) : x = 5 ∨ x = 1 := by
  unfold wantF at h
  split at h <;> split at h <;> simp at h <;> omega
theorem slot_of {a : Act} {s : Nat} {v : Value} (h : a.tmps.getD s undef = v) : a.tmps[s]?.getD undef = v := by rw [← Array.getD_eq_getD_getElem?]; exact h
def φ26 (B0 : Nat) (qv idv lv ov : Value) (H6 : Frz) (ls : List SlD) (sd : List StD) (t : TermD) (purp : ByteArray) (atv av : Value) (i : Nat) (v : Value) (w : World) : Prop :=
  match i with
  | 0 => v = qv
  | 1 => v = lv
  | 2 => v = ov
  | 3 => ∃ (q : Nat) (H' : Frz), v = .slice (some ⟨q, 0, none⟩) 2 2 ∧ H6.Le H' ∧ H'.In w ∧ Rw H' (some ⟨q, 0, none⟩) 1 fSl ls
  | 4 => ∃ (A : Option Addr) (cap : Nat) (H' : Frz), v = .slice A (catF ls).length cap ∧ H6.Le H' ∧ H'.In w ∧ Rw H' A 8 fSt (catF ls)
  | 5 => v = idv
  | 6 => ∃ (A : Option Addr) (cap : Nat) (H' : Frz), v = .agg #[.string t.region, .int .i64 t.ch, .bool t.free, .int .i64 t.days, .int .i64 t.wait, .bool true, .string purp, .slice A sd.length cap] ∧ H'.In w ∧ Rw H' A 8 fSt sd ∧ sd.length ≤ cap
  | 7 => v = atv
  | 8 => v = av
  | 9 => ∃ q : Nat, v = .pointer (some ⟨q, 0, none⟩) ∧ B0 ≤ q ∧ w.heap[q]? = some (.cells #[.bool false, .int .i64 0, .int .i64 0] 92 (0, 0))
  | _ => True
theorem φ26_mono {B0 : Nat} {qv idv lv ov : Value} {H6 : Frz} {ls : List SlD} {sd : List StD} {t : TermD} {purp : ByteArray} {atv av : Value} (i : Nat) (x : Value) (w w' : World) (hi : i < 10) (e : Below w.heap.size w w') (h : φ26 B0 qv idv lv ov H6 ls sd t purp atv av i x w) : φ26 B0 qv idv lv ov H6 ls sd t purp atv av i x w' := by
  match i, h with
  | 0, h => exact h
  | 1, h => exact h
  | 2, h => exact h
  | 3, h => obtain ⟨q, H', h1, h2, h3, h4⟩ := h; exact ⟨q, H', h1, h2, h3.below e, h4⟩
  | 4, h => obtain ⟨A, cap, H', h1, h2, h3, h4⟩ := h; exact ⟨A, cap, H', h1, h2, h3.below e, h4⟩
  | 5, h => exact h
  | 6, h => obtain ⟨A, cap, H', h1, h3, h4, h5⟩ := h; exact ⟨A, cap, H', h1, h3.below e, h4, h5⟩
  | 7, h => exact h
  | 8, h => exact h
  | 9, h => obtain ⟨q, h1, h2, h3⟩ := h; exact ⟨q, h1, h2, (e.block q (lt_of_heap h3)).trans h3⟩
  | i + 10, h => exact trivial
set_option maxHeartbeats 16000000 in
set_option maxRecDepth 100000 in
theorem askNo_any (H : Frz) (hM : MLen H) (A : Option Addr) (cap : Nat) (ps : List PurD) (A2 : Option Addr) (cap2 : Nat) (ss : List StD) (kind : Int) (text purp region : ByteArray) (ch at_ : Int) (w : World) (hH : H.In w)
    (hP : PolIn H A ps) (hl : ps.length ≤ 1000000) (hR : Rw H A2 8 fSt ss) (hl2 : ss.length < 18) (hsz : SzSt ss) (htz : text.size ≤ 1000000) (hrz : region.size ≤ 1000000) :
    Calls Tryz.prog 11 #[.slice A ps.length cap, .slice A2 ss.length cap2, .agg #[.int .i64 kind, .string text], .string purp, .string region, .int .i64 ch, .int .i64 at_, .bool false] w (WishPost w (askNo ps ss kind text purp region ch at_)) := by
  obtain ⟨i0, hi0, hz0, hz1, hz2⟩ := info_parts infoSt
  have HM0 := Lib.hid (PS.start hH ⟨kind, text⟩ #[.slice A ps.length cap, .string purp, .string region, .int .i64 ch, .int .i64 at_])
  have HM := Lib.hid hM
  have HP := Lib.hid hP
  have HR := Lib.hid hR
  have HSZ := Lib.hid hsz
  have HER := Lib.hid (fun h0 : allErr ps ss [⟨kind, text⟩] 1 purp region ch at_ = 0 => all_right h0)
  have HPA1 : Hid (allErr ps ss [⟨kind, text⟩] 1 purp region ch at_ ≠ 0 → askNo ps ss kind text purp region ch at_ = (allErr ps ss [⟨kind, text⟩] 1 purp region ch at_, [])) := fun h => if_pos h
  have HPA2 : Hid (allErr ps ss [⟨kind, text⟩] 1 purp region ch at_ = 0 → (askF ps ss kind text purp region ch at_).may = false → askNo ps ss kind text purp region ch at_ = (0, [])) := fun h h' => (if_neg (by simpa using h)).trans (if_pos h')
  have HPA3 : Hid (allErr ps ss [⟨kind, text⟩] 1 purp region ch at_ = 0 → (askF ps ss kind text purp region ch at_).may = true → askNo ps ss kind text purp region ch at_ = askFin ss (outsF (lastNo ss) kind text purp region ch at_ [3]) (lastNo ss)) := fun h h' => (if_neg (by simpa using h)).trans (if_neg (by rw [h']; decide))
  clear hH hM hP hR hsz
  go_enter Tryz.func11, Tryz.ntmps11
  go_upto_region 2 with (fail)
  generalize (w.alloc (.cells #[.int .i64 kind, .string text] 32)).alloc (.cells #[.slice A ps.length cap, .string purp, .string region, .int .i64 ch, .int .i64 at_] 85) = W0 at *
  have hk1 := HM0.out.h1
  have hk3 := HM0.out.h3
  have i0_ : W0.cell? ⟨w.heap.size, 0, none⟩ = some (.int .i64 kind) := cell_h hk1 0 rfl
  have i1_ : W0.cell? ⟨w.heap.size, 1, none⟩ = some (.string text) := cell_h hk1 1 rfl
  have q0 : W0.cell? ⟨w.heap.size + 1, 0, none⟩ = some (.slice A ps.length cap) := cell_h (hk3) 0 rfl
  have q1 : W0.cell? ⟨w.heap.size + 1, 1, none⟩ = some (.string purp) := cell_h (hk3) 1 rfl
  have q2 : W0.cell? ⟨w.heap.size + 1, 2, none⟩ = some (.string region) := cell_h (hk3) 2 rfl
  have q3 : W0.cell? ⟨w.heap.size + 1, 3, none⟩ = some (.int .i64 ch) := cell_h (hk3) 3 rfl
  have q4 : W0.cell? ⟨w.heap.size + 1, 4, none⟩ = some (.int .i64 at_) := cell_h (hk3) 4 rfl
  obtain ⟨H1, hle, hblk, hin1⟩ := HM0.out.inn.put (.cells #[.int .i64 kind, .string text] 32)
  have hR1 : Rw H1 (some ⟨W0.heap.size, 0, none⟩) 2 fId [⟨kind, text⟩] := Rw_blk hblk
  have HCA := Lib.hid (checkAll_any H1 (HM.out.le hle) A cap ps A2 cap2 ss (some ⟨W0.heap.size, 0, none⟩) 1 [⟨kind, text⟩] 1 purp region ch at_ _ hin1 (HP.out.le hle) hl (HR.out.le hle) (by omega) HSZ.out hR1 (by simp) (fun x hx => by simp at hx; rw [hx]; exact htz) hrz)
  have HM1 := Lib.hid (HM0.out.below (new1 (.cells #[.int .i64 kind, .string text] 32)))
  clear hk1 hk3 hle hblk hin1 hR1 HM0
  go_wp2_with fail
  refine HCA.out.mono ?_
  rintro e w1 ⟨rfl, hb⟩
  have HM2 := Lib.hid (HM1.out.below hb)
  clear i0_ i1_ q0 q1 q2 q3 q4 HCA hb HM1
  generalize askNo ps ss kind text purp region ch at_ = res at *
  generalize allErr ps ss [⟨kind, text⟩] 1 purp region ch at_ = ae at *
  by_cases g1 : ae = 0
  · obtain ⟨r1, r2, r3⟩ := HER.out g1
    have HV2 := Lib.hid (HPA2.out g1)
    have HV3 := Lib.hid (HPA3.out g1)
    subst g1
    have hpol := say_pol r1
    have hps := pol_right hpol
    have hat := que_at r3
    have hno := lastNo_bd r1
    have HBD := Lib.hid (said_bd (say_bd r1) kind text ch)
    have HSBD := Lib.hid (say_bd r1)
    have hsl := said_len ss kind text ch
    have HTB := Lib.hid (term_tb hpol (purp := purp) (region := region) (ch := ch))
    have HASKG := Lib.hid (fun H' (le : H.Le H') (A' : Option Addr) (cap' : Nat) (ss' : List StD) (hR' : Rw H' A' 8 fSt ss') (hl' : ss'.length < 20) W (hW : H'.In W) => ask_any H' A cap ps purp region ch at_ A' cap' ss' kind text W hW (HP.out.le le) hps.1 (fun p hp => (tes_right (hps.2 p hp)).1) hl hR' hl')
    have HASK := Lib.hid (HASKG.out H (Frz.Le.refl _) A2 cap2 ss HR.out (by omega) w1 HM2.out.inn)
    have HSA := Lib.hid (saidF_at ss kind text ch)
    have HAF : Hid (askF ps ss kind text purp region ch at_ = answerF (termF ps purp region ch) purp (saidF ss kind text ch) at_) := rfl
    clear HASKG
    have i0_ : w1.cell? ⟨w.heap.size, 0, none⟩ = some (.int .i64 kind) := cell_h HM2.out.h1 0 rfl
    have i1_ : w1.cell? ⟨w.heap.size, 1, none⟩ = some (.string text) := cell_h HM2.out.h1 1 rfl
    have q0 : w1.cell? ⟨w.heap.size + 1, 0, none⟩ = some (.slice A ps.length cap) := cell_h (HM2.out.h3) 0 rfl
    have q1 : w1.cell? ⟨w.heap.size + 1, 1, none⟩ = some (.string purp) := cell_h (HM2.out.h3) 1 rfl
    have q2 : w1.cell? ⟨w.heap.size + 1, 2, none⟩ = some (.string region) := cell_h (HM2.out.h3) 2 rfl
    have q3 : w1.cell? ⟨w.heap.size + 1, 3, none⟩ = some (.int .i64 ch) := cell_h (HM2.out.h3) 3 rfl
    have q4 : w1.cell? ⟨w.heap.size + 1, 4, none⟩ = some (.int .i64 at_) := cell_h (HM2.out.h3) 4 rfl
    clear r1 r2 r3 hpol hps HER HPA1 HPA2 HPA3
    generalize hsd : saidF ss kind text ch = sd at *
    clear hsd
    generalize termF ps purp region ch = o at *
    go_wp2_with fail
    refine HASK.out.mono ?_
    rintro e w2 ⟨v, rfl, hO, hb⟩
    obtain ⟨A4, cap4, H2, hv, hle4, p1, p2, hR4, p3, -⟩ := hO.freeze H
    subst hv
    have hin2 := p1 (HM2.out.inn.below hb)
    have hle2 := p2 (fun g hg => HM2.out.inn.none_ (hO.lt hg).1)
    have hM2 := HM2.out.below hb
    have HM2' : Hid (PS H2 w ⟨kind, text⟩ #[.slice A ps.length cap, .string purp, .string region, .int .i64 ch, .int .i64 at_] w2) := ⟨hin2, hM2.bel, hM2.h1, hM2.h3⟩
    clear i0_ i1_ q0 q1 q2 q3 q4 HASK
    obtain ⟨t, ht, -⟩ := terV_eq o
    have HT : Hid (o.getD zeroTe = t) := ht.symm
    have HTT : Hid (∀ t', o = some t' → t' = t) := fun t' h => by rw [ht, h]; rfl
    rw [HT.out]
    clear ht
    obtain ⟨H3, le3, hblk3, hin3⟩ := hin2.put (.cells #[.string t.region, .int .i64 t.ch, .bool t.free, .int .i64 t.days, .int .i64 t.wait, .bool o.isSome, .string purp, .slice A4 sd.length cap4] 89)
    have hM3 := hM2.below (new1 (.cells #[.string t.region, .int .i64 t.ch, .bool t.free, .int .i64 t.days, .int .i64 t.wait, .bool o.isSome, .string purp, .slice A4 sd.length cap4] 89))
    have HM3 : Hid (PS H3 w ⟨kind, text⟩ #[.slice A ps.length cap, .string purp, .string region, .int .i64 ch, .int .i64 at_] (w2.alloc (.cells #[.string t.region, .int .i64 t.ch, .bool t.free, .int .i64 t.days, .int .i64 t.wait, .bool o.isSome, .string purp, .slice A4 sd.length cap4] 89))) := ⟨hin3, hM3.bel, hM3.h1, hM3.h3⟩
    have HLE3 := Lib.hid (hle2.trans le3)
    have HR3 := Lib.hid (hR4.le le3)
    have HBK3 := Lib.hid hblk3
    have HAN := Lib.hid (fun W (hW : H3.In W) => answer_any H3 A4 cap4 sd o purp at_ W hW (hR4.le le3) HSA.out (by omega) hle4 HBD.out HTB.out (by omega) (by omega))
    rw [HT.out] at HAN
    clear hO p1 p2 p3 hR4 hin2 hb le3 hin3 hblk3 HM2 HM2' hM2 hM3 hle2
    go_upto_region 6 with (fail)
    generalize w2.alloc (.cells #[.string t.region, .int .i64 t.ch, .bool t.free, .int .i64 t.days, .int .i64 t.wait, .bool o.isSome, .string purp, .slice A4 sd.length cap4] 89) = W3 at *
    generalize w2.heap.size = qb at *
    have a0 : W3.cell? ⟨qb, 0, none⟩ = some (.string t.region) := cell_h (HM3.out.inn _ _ HBK3.out) 0 rfl
    have a1 : W3.cell? ⟨qb, 1, none⟩ = some (.int .i64 t.ch) := cell_h (HM3.out.inn _ _ HBK3.out) 1 rfl
    have a2 : W3.cell? ⟨qb, 2, none⟩ = some (.bool t.free) := cell_h (HM3.out.inn _ _ HBK3.out) 2 rfl
    have a3 : W3.cell? ⟨qb, 3, none⟩ = some (.int .i64 t.days) := cell_h (HM3.out.inn _ _ HBK3.out) 3 rfl
    have a4 : W3.cell? ⟨qb, 4, none⟩ = some (.int .i64 t.wait) := cell_h (HM3.out.inn _ _ HBK3.out) 4 rfl
    have a5 : W3.cell? ⟨qb, 5, none⟩ = some (.bool o.isSome) := cell_h (HM3.out.inn _ _ HBK3.out) 5 rfl
    have a6 : W3.cell? ⟨qb, 6, none⟩ = some (.string purp) := cell_h (HM3.out.inn _ _ HBK3.out) 6 rfl
    have a7 : W3.cell? ⟨qb, 7, none⟩ = some (.slice A4 sd.length cap4) := cell_h (HM3.out.inn _ _ HBK3.out) 7 rfl
    go_wp2_with fail
    refine (HAN.out _ HM3.out.inn).mono ?_
    rintro e w4 ⟨rfl, hb⟩
    rw [← HAF.out]
    clear a0 a1 a2 a3 a4 a5 a6 a7
    generalize askF ps ss kind text purp region ch at_ = ans at HV2 HV3 HAF ⊢
    obtain ⟨am, ay, an⟩ := ans
    rw [show ansV ⟨am, ay, an⟩ = .agg #[.bool am, .int .i64 ay, .int .i64 an] from rfl]
    have hf0 : ∀ W, (Instr.field 92 (.agg #[.bool am, .int .i64 ay, .int .i64 an]) 0).run Tryz.prog W = .ok (.bool am) W := fun W => by kernel_rfl
    have HM4 := Lib.hid (HM3.out.below hb)
    clear hb HM3
    cases am with
    | false =>
      have HV := Lib.hid (HV2.out rfl)
      clear HV2 HV3
      go_wp2_with fail
      go_ret2
      exact WishPost.nil HV.out HM4.out.bel
    | true =>
      have HVX := Lib.hid (HV3.out rfl)
      clear HV2 HV3
      obtain ⟨H5, le5, hblk5, hin5⟩ := HM4.out.inn.put (.cells #[.int .i64 3] 3)
      have hM5 := HM4.out.below (new1 (.cells #[.int .i64 3] 3))
      have HM5 : Hid (PS H5 w ⟨kind, text⟩ #[.slice A ps.length cap, .string purp, .string region, .int .i64 ch, .int .i64 at_] (w4.alloc (.cells #[.int .i64 3] 3))) := ⟨hin5, hM5.bel, hM5.h1, hM5.h3⟩
      have HLE5 := Lib.hid (HLE3.out.trans le5)
      have HW5 : Hid (Rw H5 (some ⟨w4.heap.size, 0, none⟩) 1 fI [3]) := Rw_blk (T := 3) hblk5
      clear le5 hblk5 hin5 hM5 HM4
      go_upto_if 62 with (fail)
      go_cut [22] (fun s22 wx => s22 = .int .i64 (lastNo ss) ∧ wx = (w4.alloc (.cells #[.int .i64 3] 3)))
      case first =>
        by_cases hne : ss.length = 0
        · have k0 : ((ss.length : Nat) : Int) = 0 := by omega
          have HNO : Hid (lastNo ss = 0) := dif_pos hne
          clear hne
          go_wp2_with fail
          go_meet
          exact ⟨by rw [HNO.out], rfl⟩
        · have k1 : decide ((0 : Int) < (ss.length : Int)) = true := decide_eq_true (by omega)
          have hlt9 : ss.length - 1 < ss.length := by omega
          have HNO : Hid (lastNo ss = (ss[ss.length - 1]).no) := dif_neg hne
          obtain ⟨b2, off2, hA2, hbl2, hc2⟩ := HR.out.at_ (HM5.out.inn.le HLE5.out) (i := ss.length - 1) hlt9 (by omega)
          subst hA2
          have y0 : (w4.alloc (.cells #[.int .i64 3] 3)).cell? ⟨b2, off2 + (ss.length - 1) * 8, none⟩ = some (.int .i64 (ss[ss.length - 1]).no) := hc2 0 (by omega)
          have e1 : IntKind.i64.wrap ((ss.length : Int) - 1) = (ss.length : Int) - 1 := IntWalk.i64_in _ (by omega)
          have e2 : ((ss.length : Int) - 1).toNat = ss.length - 1 := by omega
          have e3 : (0 : Int) ≤ (ss.length : Int) - 1 := by omega
          have e4 : (ss.length : Int) - 1 < ss.length := by omega
          have e5 : (1 : Int) ≤ (ss.length : Int) := by omega
          clear hc2
          generalize ss[ss.length - 1] = sl at *
          clear hne hlt9
          go_wp2_with fail
          go_meet
          exact ⟨by rw [HNO.out], rfl⟩
      case rest =>
      obtain ⟨rfl, hwx⟩ := hcut
      obtain rfl := hwx.symm
      generalize hW5 : w4.alloc (.cells #[.int .i64 3] 3) = W5 at *
      clear hW5
      generalize w4.heap.size = wb at *
      obtain ⟨ws, hws⟩ : ∃ ws : List Int, ws = [3] := ⟨_, rfl⟩
      rw [← hws] at HVX HW5
      have hwl : ws.length = 1 := by rw [hws]; rfl
      have hwl2 : ((ws.length : Nat) : Int) = 1 := by omega
      clear hws
      go_wp2_with fail
      generalize hno' : lastNo ss = no at *
      clear hno'
      have HIG0 : Hid (IG 38 8 fSt H5 W5.heap.size (.slice none 0 0) ([] : List StD) w W5) := ⟨HM5.out.inn, Orow.nil _ _ _ _ _, fun g hg => by simp [Value.ownBlock] at hg, HM5.out.bel, HM5.out.bel.size, Nat.le_refl _⟩
      have HXB := Lib.hid HM5.out.h1
      have HXL := Lib.hid (lt_of_heap HM5.out.h1)
      generalize hib : W5.heap.size = ib at *
      go_loopw [23, 24, 25, 26, 72] (fun t23 _ _ _ t72 wr => ∃ (i : Nat) (v' : Value), i ≤ ws.length ∧ t23 = v' ∧ t72 = .int .i64 i ∧ Hid (IG 38 8 fSt H5 ib v' ((outsF no kind text purp region ch at_ ws).take i) w wr) ∧ Hid (Below ib W5 wr)) (fun _ _ _ _ t _ => ws.length - (intOf t).toNat)
      case atStart => exact ⟨0, _, by omega, rfl, rfl, HIG0, Below.refl _ _⟩
      case round =>
        obtain ⟨i, v', hi, rfl, rfl, hI, hBW⟩ := hrel
        clear HIG0
        by_cases hlt : i < ws.length
        · obtain ⟨b5, off5, hA5, hbl5, hc5⟩ := HW5.out.at_ hI.out.inn hlt (by omega)
          injection hA5 with hA5
          injection hA5 with hA5 hA6
          subst hA5 hA6
          have y0 := hc5 0 (by omega)
          rw [show 0 + i * 1 + 0 = i from by omega] at y0
          unfold fI at y0
          have hx1 := (hBW.out.block _ HXL.out).trans HXB.out
          have x0 : wr.cell? ⟨w.heap.size, 0, none⟩ = some (.int .i64 kind) := cell_h hx1 0 rfl
          have x1 : wr.cell? ⟨w.heap.size, 1, none⟩ = some (.string text) := cell_h hx1 1 rfl
          have HTK := Lib.hid (outsF_take (no := no) (kind := kind) (text := text) (purp := purp) (region := region) (ch := ch) (at_ := at_) hlt)
          have e1 : IntKind.i64.wrap (no + 1) = no + 1 := IntWalk.i64_in _ (by omega)
          have e2 : IntKind.i64.wrap (no + 1 + (i : Int)) = no + 1 + (i : Int) := IntWalk.i64_in _ (by omega)
          clear hc5 hx1
          generalize ws[i] = wv at *
          have HI8 := Lib.hid (hI.out.below (new1 (.cells #[.int .i64 (no + 1 + (i : Int)), .int .i64 at_, .int .i64 kind, .string text, .string purp, .string region, .int .i64 ch, .int .i64 wv] 38)))
          have HB8 := Lib.hid (hBW.out.trans ((new1 (w := wr) (.cells #[.int .i64 (no + 1 + (i : Int)), .int .i64 at_, .int .i64 kind, .string text, .string purp, .string region, .int .i64 ch, .int .i64 wv] 38)).mono hI.out.le))
          have HNB : Hid ((wr.alloc (.cells #[.int .i64 (no + 1 + (i : Int)), .int .i64 at_, .int .i64 kind, .string text, .string purp, .string region, .int .i64 ch, .int .i64 wv] 38)).heap[wr.heap.size]? = some (.cells #[.int .i64 (no + 1 + (i : Int)), .int .i64 at_, .int .i64 kind, .string text, .string purp, .string region, .int .i64 ch, .int .i64 wv] 38)) := heap_alloc_new _ _
          have HNN : Hid (u23.ownBlock ≠ some wr.heap.size ∧ H5 wr.heap.size = none ∧ w.heap.size ≤ wr.heap.size ∧ ib ≤ wr.heap.size) := ⟨fun e => by have := (hI.out.row.lt e).2; omega, hI.out.inn.none_ (Nat.le_refl _), hI.out.bel.size, hI.out.le⟩
          clear hI hBW
          go_upto_region 21 with (fail)
          generalize wr.alloc (.cells #[.int .i64 (no + 1 + (i : Int)), .int .i64 at_, .int .i64 kind, .string text, .string purp, .string region, .int .i64 ch, .int .i64 wv] 38) = W8 at *
          generalize wr.heap.size = nb at *
          clear x0 x1 y0 e1 e2
          go_wp2_with fail
          refine (ofChannel_any wv _).mono ?_
          rintro e w9 ⟨rfl, rfl⟩
          cases hoc : ofCh wv with
          | true =>
            have HD : Hid (outS no kind text purp region ch at_ i wv = ⟨no + 1 + i, at_, kind, text, ⟨#[]⟩, region, ch, wv⟩) := by show _ = _; unfold outS; rw [if_pos hoc]
            have hfz := froz_h HNB.out 4
            have z4 : W8.cell? ⟨nb, 4, none⟩ = some (.string purp) := cell_h HNB.out 4 rfl
            have HNB2 := Lib.hid (set_at (m := 4) HNB.out (.string ⟨#[]⟩))
            have HI9 := Lib.hid (HI8.out.setNew (nb := nb) (m := 4) (x := .string ⟨#[]⟩) HNN.out.2.2.1 HNN.out.1 HNN.out.2.1)
            have HB9 : Hid (Below ib W5 (W8.setCell ⟨nb, 4, none⟩ (.string ⟨#[]⟩))) := HB8.out.setCell HNN.out.2.2.2 _
            clear HI8 HB8 HNB hoc
            go_upto_region 23 with (fail)
            generalize W8.setCell ⟨nb, 4, none⟩ (.string ⟨#[]⟩) = W9 at *
            have z0 : W9.cell? ⟨nb, 0, none⟩ = some (.int .i64 (no + 1 + (i : Int))) := cell_h HNB2.out 0 rfl
            have z1 : W9.cell? ⟨nb, 1, none⟩ = some (.int .i64 at_) := cell_h HNB2.out 1 rfl
            have z2 : W9.cell? ⟨nb, 2, none⟩ = some (.int .i64 kind) := cell_h HNB2.out 2 rfl
            have z3 : W9.cell? ⟨nb, 3, none⟩ = some (.string text) := cell_h HNB2.out 3 rfl
            have z4 : W9.cell? ⟨nb, 4, none⟩ = some (.string ⟨#[]⟩) := cell_h HNB2.out 4 rfl
            have z5 : W9.cell? ⟨nb, 5, none⟩ = some (.string region) := cell_h HNB2.out 5 rfl
            have z6 : W9.cell? ⟨nb, 6, none⟩ = some (.int .i64 ch) := cell_h HNB2.out 6 rfl
            have z7 : W9.cell? ⟨nb, 7, none⟩ = some (.int .i64 wv) := cell_h HNB2.out 7 rfl
            rw [HD.out] at HTK
            have HRow := Lib.hid HI9.out.row
            have HST := Lib.hid (fun v' W' o g1 at1 => HI9.out.app (v' := v') (W' := W') (ds' := (outsF no kind text purp region ch at_ ws).take i ++ [⟨no + 1 + i, at_, kind, text, ⟨#[]⟩, region, ch, wv⟩]) o g1 at1)
            have HSB := Lib.hid (fun W' (g1 : W9.grownBy W' u23.ownBlock) => HB9.out.grown g1 (show ib ≤ W9.heap.size from HI9.out.le) (fun q hq => (HI9.out.row.lt hq).1))
            have hB9 := HI9.out.le
            have hpl : ((outsF no kind text purp region ch at_ ws).take i).length ≤ 4294967296 := by rw [List.length_take]; omega
            generalize (outsF no kind text purp region ch at_ ws).take i = zs at *
            clear HI9 HB9 HD
            go_wp2_with (at_builtin; refine wpList_app_at rfl _ _ 28 rfl ib 38 i0 (.agg #[.int .i64 0, .int .i64 0, .int .i64 0, .string ⟨#[]⟩, .string ⟨#[]⟩, .string ⟨#[]⟩, .int .i64 0, .int .i64 0]) 8 88 Tryz.underlying28 hi0 hz0 hz1 hz2 rfl (by decide) fSt _ zs rfl HRow.out ⟨no + 1 + i, at_, kind, text, ⟨#[]⟩, region, ch, wv⟩ #[.int .i64 (no + 1 + (i : Int)), .int .i64 at_, .int .i64 kind, .string text, .string ⟨#[]⟩, .string region, .int .i64 ch, .int .i64 wv] 38 rfl rfl (by simp [Value.oneCell']) hpl (by omega) hB9 ?_; intro v1 WM o1 g1 b1 at1; have HI11 := Lib.hid (HST.out _ _ o1 g1 at1); have HB11 := Lib.hid (HSB.out _ g1); clear o1 g1 b1 at1 HST HRow HSB)
            rw [← HTK.out] at HI11
            go_roundw
            case rel => exact ⟨i + 1, v1, by omega, rfl, by go_num, HI11, HB11⟩
            case measure => simp [intOf]; omega
          | false =>
            have HD : Hid (outS no kind text purp region ch at_ i wv = ⟨no + 1 + i, at_, kind, text, purp, region, ch, wv⟩) := by show _ = _; unfold outS; rw [if_neg (by rw [hoc]; decide)]
            have HNB2 := HNB
            have HI9 := HI8
            have HB9 := HB8
            clear HI8 HB8 HNB hoc
            go_upto_region 23 with (fail)
            obtain ⟨W9, rfl⟩ : ∃ W9 : World, W9 = W8 := ⟨_, rfl⟩
            have z0 : W9.cell? ⟨nb, 0, none⟩ = some (.int .i64 (no + 1 + (i : Int))) := cell_h HNB2.out 0 rfl
            have z1 : W9.cell? ⟨nb, 1, none⟩ = some (.int .i64 at_) := cell_h HNB2.out 1 rfl
            have z2 : W9.cell? ⟨nb, 2, none⟩ = some (.int .i64 kind) := cell_h HNB2.out 2 rfl
            have z3 : W9.cell? ⟨nb, 3, none⟩ = some (.string text) := cell_h HNB2.out 3 rfl
            have z4 : W9.cell? ⟨nb, 4, none⟩ = some (.string purp) := cell_h HNB2.out 4 rfl
            have z5 : W9.cell? ⟨nb, 5, none⟩ = some (.string region) := cell_h HNB2.out 5 rfl
            have z6 : W9.cell? ⟨nb, 6, none⟩ = some (.int .i64 ch) := cell_h HNB2.out 6 rfl
            have z7 : W9.cell? ⟨nb, 7, none⟩ = some (.int .i64 wv) := cell_h HNB2.out 7 rfl
            rw [HD.out] at HTK
            have HRow := Lib.hid HI9.out.row
            have HST := Lib.hid (fun v' W' o g1 at1 => HI9.out.app (v' := v') (W' := W') (ds' := (outsF no kind text purp region ch at_ ws).take i ++ [⟨no + 1 + i, at_, kind, text, purp, region, ch, wv⟩]) o g1 at1)
            have HSB := Lib.hid (fun W' (g1 : W9.grownBy W' u23.ownBlock) => HB9.out.grown g1 (show ib ≤ W9.heap.size from HI9.out.le) (fun q hq => (HI9.out.row.lt hq).1))
            have hB9 := HI9.out.le
            have hpl : ((outsF no kind text purp region ch at_ ws).take i).length ≤ 4294967296 := by rw [List.length_take]; omega
            generalize (outsF no kind text purp region ch at_ ws).take i = zs at *
            clear HI9 HB9 HD
            go_wp2_with (at_builtin; refine wpList_app_at rfl _ _ 28 rfl ib 38 i0 (.agg #[.int .i64 0, .int .i64 0, .int .i64 0, .string ⟨#[]⟩, .string ⟨#[]⟩, .string ⟨#[]⟩, .int .i64 0, .int .i64 0]) 8 88 Tryz.underlying28 hi0 hz0 hz1 hz2 rfl (by decide) fSt _ zs rfl HRow.out ⟨no + 1 + i, at_, kind, text, purp, region, ch, wv⟩ #[.int .i64 (no + 1 + (i : Int)), .int .i64 at_, .int .i64 kind, .string text, .string purp, .string region, .int .i64 ch, .int .i64 wv] 38 rfl rfl (by simp [Value.oneCell']) hpl (by omega) hB9 ?_; intro v1 WM o1 g1 b1 at1; have HI11 := Lib.hid (HST.out _ _ o1 g1 at1); have HB11 := Lib.hid (HSB.out _ g1); clear o1 g1 b1 at1 HST HRow HSB)
            rw [← HTK.out] at HI11
            go_roundw
            case rel => exact ⟨i + 1, v1, by omega, rfl, by go_num, HI11, HB11⟩
            case measure => simp [intOf]; omega
        · have hie : i = ws.length := by omega
          subst hie
          rw [← outsF_len (no := no) (kind := kind) (text := text) (purp := purp) (region := region) (ch := ch) (at_ := at_) (ws := ws), List.take_length] at hI
          have HROW := Lib.hid (hI.out.row.mono hI.out.hB)
          have HBE := Lib.hid hI.out.bel
          have holen : (outsF no kind text purp region ch at_ ws).length ≤ 2 := by rw [outsF_len]; omega
          obtain ⟨A6, cap6, hv6, hle6⟩ := hI.out.row.slice
          subst hv6
          generalize outsF no kind text purp region ch at_ ws = outs at *
          clear hI hBW
          have k1 : decide ((3000 : Int) < (ss.length : Int) + (outs.length : Int)) = false := by simp; omega
          have e3 : IntKind.i64.wrap ((ss.length : Int) + (outs.length : Int)) = (ss.length : Int) + (outs.length : Int) := IntWalk.i64_in _ (by omega)
          have e4 : IntKind.i64.wrap (no + (outs.length : Int)) = no + (outs.length : Int) := IntWalk.i64_in _ (by omega)
          by_cases g9 : 1000000 < no + (outs.length : Int)
          · have k2 : decide ((1000000 : Int) < no + (outs.length : Int)) = true := by simpa using g9
            have HV := Lib.hid (HVX.out.trans (if_pos (Or.inr g9)))
            clear g9 HVX
            go_wp2_with fail
            go_ret2
            exact WishPost.nil HV.out HBE.out
          · have k2 : decide ((1000000 : Int) < no + (outs.length : Int)) = false := by simpa using g9
            have HV := Lib.hid (HVX.out.trans (if_neg (show ¬ (3000 < ss.length + outs.length ∨ 1000000 < no + (outs.length : Int)) by omega)))
            clear g9 HVX
            go_wp2_with fail
            go_ret2
            rw [HV.out]
            exact ⟨_, rfl, HROW.out, HBE.out⟩
  · have HV := Lib.hid (HPA1.out g1)
    have k1 : (ae != 0) = true := by simpa using g1
    clear HPA1 HPA2 HPA3 HER
    go_wp2_with fail
    go_ret2
    exact WishPost.nil HV.out HM2.out.bel
end Go.Proofs.YtmlpfbffecdepaaGreatDoor

/- What Ask says is right, and makes the answer as it was wanted; merged in it says the same: plain. -/
namespace Go.Proofs.YtmlpfbffecdepaaGreatDoor
set_option linter.unusedVariables false
open Go.RowKit
theorem que_parts {ps : List PurD} {purp region : ByteArray} {ch at_ : Int} (h : queErr ps purp region ch at_ = 0) : (purF ps purp).isNone = false ∧ isKey region = true ∧ chB ch = true ∧ 0 ≤ at_ ∧ at_ ≤ 4321439 := by
  have h0 := que_at h
  unfold queErr at h
  split at h
  · cases h
  · rename_i c1
    split at h
    · cases h
    · rename_i c2
      split at h
      · cases h
      · rename_i c3
        exact ⟨Bool.eq_false_iff.2 c1, by simpa using c2, by simpa using c3, h0⟩
theorem out_one {ps : List PurD} {kind : Int} {text purp region : ByteArray} {ch at_ no : Int} (hi : idErr kind text = 0) (hq : queErr ps purp region ch at_ = 0) {i : Nat} {x : Int} (hx : x = 5 ∨ x = 1 ∨ x = 3) (h0 : 0 ≤ no) (h9 : no + 1 + i ≤ 1000000) : stOne ps (outS no kind text purp region ch at_ i x) = 0 := by
  obtain ⟨q1, q2, q3, q4, q5⟩ := que_parts hq
  unfold stOne outS
  dsimp only
  rw [if_neg (by omega), if_neg (by omega), if_neg (by rw [hi]; decide), if_neg (fun c => c ⟨q3, by omega, by omega⟩)]
  rcases hx with rfl | rfl | rfl
  · have e : ofCh 5 = true := by decide
    rw [if_pos e, if_neg (fun c => c.2 rfl), if_neg (by rw [e]; simp), if_neg (by rw [q2]; decide)]
  · have e : ofCh 1 = false := by decide
    have e' : ¬ (ofCh 1 = true) := by rw [e]; decide
    rw [if_neg e', if_neg (fun c => e' c.1), if_neg (by rw [q1]; simp), if_neg (by rw [q2]; decide)]
  · have e : ofCh 3 = false := by decide
    have e' : ¬ (ofCh 3 = true) := by rw [e]; decide
    rw [if_neg e', if_neg (fun c => e' c.1), if_neg (by rw [q1]; simp), if_neg (by rw [q2]; decide)]
theorem last_le {ss : List StD} (h : ss.Pairwise fun a b => a.no < b.no) {s : StD} (hs : s ∈ ss) : s.no ≤ lastNo ss := by
  obtain ⟨i, hi, rfl⟩ := List.mem_iff_getElem.1 hs
  unfold lastNo
  rw [dif_neg (by omega)]
  by_cases c : i = ss.length - 1
  · subst c; exact Int.le_refl _
  · have := List.pairwise_iff_getElem.1 h i (ss.length - 1) hi (by omega) (by omega)
    omega
structure WishOk (ps : List PurD) (ss : List StD) (kind : Int) (text purp region : ByteArray) (ch at_ : Int) (want : Bool) (out : List StD) : Prop where
  len : out.length ≤ 2
  all0 : allErr ps (ss ++ out) [⟨kind, text⟩] 1 purp region ch at_ = 0
  say1 : sayErr idErr ps out = 0
  say2 : sayErr idErr ps ss = 0
  good : (askF ps (ss ++ out) kind text purp region ch at_).may = want ∨ (want = true ∧ (askF ps (ss ++ out) kind text purp region ch at_).may = false ∧ (askF ps (ss ++ out) kind text purp region ch at_).why = 8)
  sz : text.size ≤ 1000000 → purp.size ≤ 1000000 → region.size ≤ 1000000 → SzSt out
theorem fin_say {ps : List PurD} {ss : List StD} {kind : Int} {text purp region : ByteArray} {ch at_ : Int} (h : allErr ps ss [⟨kind, text⟩] 1 purp region ch at_ = 0) {ws : List Int} (hw : ∀ x ∈ ws, x = 5 ∨ x = 1 ∨ x = 3)
    (h9 : ¬ (3000 < ss.length + (outsF (lastNo ss) kind text purp region ch at_ ws).length ∨ 1000000 < lastNo ss + ((outsF (lastNo ss) kind text purp region ch at_ ws).length : Int))) :
    sayErr idErr ps (ss ++ outsF (lastNo ss) kind text purp region ch at_ ws) = 0 := by
  obtain ⟨r1, r2, r3⟩ := all_right h
  rw [idsErr_one] at r2
  have hb := lastNo_bd r1
  obtain ⟨a1, a2, a3, a4⟩ := (say_iff ps ss).1 r1
  rw [outsF_len] at h9
  have hget : ∀ i (hi : i < (outsF (lastNo ss) kind text purp region ch at_ ws).length), (outsF (lastNo ss) kind text purp region ch at_ ws)[i] = outS (lastNo ss) kind text purp region ch at_ i (ws[i]'(by rw [outsF_len] at hi; exact hi)) := by
    intro i hi
    simp [outsF]
  refine (say_iff ps _).2 ⟨a1, by rw [List.length_append, outsF_len]; omega, ?_, ?_⟩
  · rw [List.pairwise_append]
    refine ⟨a3, ?_, ?_⟩
    · rw [List.pairwise_iff_getElem]
      intro i j hi hj hij
      rw [hget i hi, hget j hj]
      show lastNo ss + 1 + (i : Int) < lastNo ss + 1 + (j : Int)
      omega
    · intro s hs u hu
      obtain ⟨j, hj, rfl⟩ := List.mem_iff_getElem.1 hu
      rw [hget j hj]
      have := last_le a3 hs
      show s.no < lastNo ss + 1 + (j : Int)
      omega
  · intro s hs
    rcases List.mem_append.1 hs with hs | hs
    · exact a4 s hs
    · obtain ⟨j, hj, rfl⟩ := List.mem_iff_getElem.1 hs
      rw [hget j hj]
      rw [outsF_len] at hj
      exact out_one r2 r3 (hw _ (List.getElem_mem hj)) hb.1 (by omega)
theorem all_of {ps : List PurD} {ss ss' : List StD} {ids : List IdD} {most : Int} {purp region : ByteArray} {ch at_ : Int} (h : allErr ps ss ids most purp region ch at_ = 0) (h' : sayErr idErr ps ss' = 0) : allErr ps ss' ids most purp region ch at_ = 0 := by
  obtain ⟨r1, r2, r3⟩ := all_right h
  unfold allErr
  rw [if_neg (by simpa using h'), if_neg (by simpa using r2)]
  exact r3
theorem outs_sz {no : Int} {kind : Int} {text purp region : ByteArray} {ch at_ : Int} {ws : List Int} (h1 : text.size ≤ 1000000) (h2 : purp.size ≤ 1000000) (h3 : region.size ≤ 1000000) : SzSt (outsF no kind text purp region ch at_ ws) := by
  intro s hs
  obtain ⟨j, hj, rfl⟩ := List.mem_iff_getElem.1 hs
  have : (outsF no kind text purp region ch at_ ws)[j] = outS no kind text purp region ch at_ j (ws[j]'(by rw [outsF_len] at hj; exact hj)) := by simp [outsF]
  rw [this]
  refine ⟨h1, ?_, h3⟩
  unfold outS
  dsimp only
  split
  · show (0 : Nat) ≤ 1000000
    omega
  · exact h2
theorem wish_fin {ps : List PurD} {ss : List StD} {kind : Int} {text purp region : ByteArray} {ch at_ : Int} {want : Bool} (h : allErr ps ss [⟨kind, text⟩] 1 purp region ch at_ = 0) {ws : List Int} (hw : ∀ x ∈ ws, x = 5 ∨ x = 1 ∨ x = 3) (hl : ws.length ≤ 2)
    (he : (askFin ss (outsF (lastNo ss) kind text purp region ch at_ ws) (lastNo ss)).1 = 0)
    (hg : sayErr idErr ps (ss ++ outsF (lastNo ss) kind text purp region ch at_ ws) = 0 → (askF ps (ss ++ outsF (lastNo ss) kind text purp region ch at_ ws) kind text purp region ch at_).may = want ∨ (want = true ∧ (askF ps (ss ++ outsF (lastNo ss) kind text purp region ch at_ ws) kind text purp region ch at_).may = false ∧ (askF ps (ss ++ outsF (lastNo ss) kind text purp region ch at_ ws) kind text purp region ch at_).why = 8)) :
    WishOk ps ss kind text purp region ch at_ want (askFin ss (outsF (lastNo ss) kind text purp region ch at_ ws) (lastNo ss)).2 := by
  unfold askFin at he ⊢
  split at he
  · cases he
  · rename_i h9
    rw [if_neg h9]
    have hs := fin_say h hw h9
    exact ⟨by rw [outsF_len]; exact hl, all_of h hs, say_sub hs (List.sublist_append_right _ _), (all_right h).1, hg hs, fun a b c => outs_sz a b c⟩
theorem wish_nil {ps : List PurD} {ss : List StD} {kind : Int} {text purp region : ByteArray} {ch at_ : Int} {want : Bool} (h : allErr ps ss [⟨kind, text⟩] 1 purp region ch at_ = 0) (hm : (askF ps ss kind text purp region ch at_).may = want) : WishOk ps ss kind text purp region ch at_ want [] := by
  have hs := (all_right h).1
  refine ⟨by simp, by rw [List.append_nil]; exact h, say_sub hs (List.nil_sublist _), hs, Or.inl (by rw [List.append_nil]; exact hm), fun _ _ _ s hs => by cases hs⟩
theorem askFin_er {ss outs : List StD} {no : Int} (h : (askFin ss outs no).1 ≠ 0) : (askFin ss outs no).2 = [] := by
  unfold askFin at h ⊢
  split
  · rfl
  · rename_i c; rw [if_neg c] at h; exact absurd rfl h
theorem askNo_er {ps : List PurD} {ss : List StD} {kind : Int} {text purp region : ByteArray} {ch at_ : Int} (h : (askNo ps ss kind text purp region ch at_).1 ≠ 0) : (askNo ps ss kind text purp region ch at_).2 = [] := by
  unfold askNo at h ⊢
  split
  · rfl
  · rename_i c1
    rw [if_neg c1] at h
    split
    · rfl
    · rename_i c2
      rw [if_neg c2] at h
      exact askFin_er h
theorem askYes_er {ps : List PurD} {ss : List StD} {kind : Int} {text purp region : ByteArray} {ch at_ : Int} (h : (askYes ps ss kind text purp region ch at_).1 ≠ 0) : (askYes ps ss kind text purp region ch at_).2 = [] := by
  unfold askYes at h ⊢
  split
  · rfl
  · rename_i c1
    rw [if_neg c1] at h
    split
    · rfl
    · rename_i c2
      rw [if_neg c2] at h
      cases e : termF ps purp region ch with
      | none => rfl
      | some t =>
        rw [e] at h
        dsimp only at h ⊢
        split
        · rfl
        · rename_i c3
          rw [if_neg c3] at h
          exact askFin_er h
theorem askNo_ok {ps : List PurD} {ss : List StD} {kind : Int} {text purp region : ByteArray} {ch at_ : Int} (h : (askNo ps ss kind text purp region ch at_).1 = 0) : WishOk ps ss kind text purp region ch at_ false (askNo ps ss kind text purp region ch at_).2 := by
  unfold askNo at h ⊢
  by_cases c1 : allErr ps ss [⟨kind, text⟩] 1 purp region ch at_ ≠ 0
  · rw [if_pos c1] at h; exact absurd h c1
  · rw [if_neg c1] at h ⊢
    have hall := Classical.not_not.1 c1
    by_cases c2 : (askF ps ss kind text purp region ch at_).may = false
    · rw [if_pos c2]
      exact wish_nil hall c2
    · rw [if_neg c2] at h ⊢
      refine wish_fin hall (by simp) (by simp) h (fun _ => Or.inl ?_)
      unfold askF
      refine withdrawn_no (s := outS (lastNo ss) kind text purp region ch at_ 0 3) (List.mem_append_right _ ?_) rfl rfl rfl rfl rfl ?_ _
      · exact List.mem_cons_self
      · have e : ¬ (ofCh 3 = true) := by decide
        unfold outS
        dsimp only
        rw [if_neg e]
theorem askYes_ok {ps : List PurD} {ss : List StD} {kind : Int} {text purp region : ByteArray} {ch at_ : Int} (h : (askYes ps ss kind text purp region ch at_).1 = 0) : WishOk ps ss kind text purp region ch at_ true (askYes ps ss kind text purp region ch at_).2 := by
  unfold askYes at h ⊢
  by_cases c1 : allErr ps ss [⟨kind, text⟩] 1 purp region ch at_ ≠ 0
  · rw [if_pos c1] at h; exact absurd h c1
  · rw [if_neg c1] at h ⊢
    have hall := Classical.not_not.1 c1
    by_cases c2 : (askF ps ss kind text purp region ch at_).may = true
    · rw [if_pos c2]
      exact wish_nil hall c2
    · rw [if_neg c2] at h ⊢
      cases e : termF ps purp region ch with
      | none => rw [e] at h; cases h
      | some t =>
        rw [e] at h
        dsimp only at h ⊢
        split
        · rename_i c3; rw [if_pos c3] at h; cases h
        · rename_i c3
          rw [if_neg c3] at h
          refine wish_fin hall (fun x hx => by have := wantF_mem hx; omega) (wantF_len _ _ _ _) h (fun _ => ?_)
          generalize askF ps _ kind text purp region ch at_ = a at c3 ⊢
          cases hm : a.may with
          | true => exact Or.inl rfl
          | false =>
            refine Or.inr ⟨rfl, rfl, ?_⟩
            by_cases k : a.why = 8
            · exact k
            · exact absurd ⟨hm, k⟩ c3
theorem mayA_eq {ps : List PurD} {ss : List StD} {kind : Int} {text purp region : ByteArray} {ch at_ : Int} (h : allErr ps ss [⟨kind, text⟩] 1 purp region ch at_ = 0) : mayA ps ss kind text purp region ch at_ = askF ps ss kind text purp region ch at_ := by
  unfold mayA
  rw [if_neg (by simpa using h)]
/-- Merged in, it says the same. -/
theorem merged_same {ps : List PurD} {l m : List StD} {kind : Int} {text purp region : ByteArray} {ch at_ : Int} (h : allErr ps l [⟨kind, text⟩] 1 purp region ch at_ = 0) (hm : MergeOk l m) :
    allErr ps m [⟨kind, text⟩] 1 purp region ch at_ = 0 ∧ (mayA ps m kind text purp region ch at_).may = (mayA ps l kind text purp region ch at_).may ∧ (mayA ps m kind text purp region ch at_).why = (mayA ps l kind text purp region ch at_).why := by
  have hs := (all_right h).1
  obtain ⟨a1, a2, a3, a4⟩ := (say_iff ps l).1 hs
  have hm0 := all_of h (hm.say a1 a2 a4)
  have h0 : ∀ s ∈ l, 0 ≤ s.at_ := fun s hs => by
    have := a4 s hs
    unfold stOne at this
    split at this
    · cases this
    · split at this
      · cases this
      · omega
  have := hm.may h0 ps kind text purp region ch at_
  rw [mayA_eq h, mayA_eq hm0]
  exact ⟨hm0, this.1.symm, this.2.symm⟩
theorem merged_sz {l m : List StD} (h : SzSt l) (hm : MergeOk l m) : SzSt m := by
  intro s hs
  obtain ⟨x, hx, j, hj, rfl⟩ := hm.mem hs
  exact h x hx
end Go.Proofs.YtmlpfbffecdepaaGreatDoor
