/- Texts of this claim, put together: Far, FarW, Shared. -/
import Derived.Test.YtbidhpgjmcedaaaGreatDoorGBQ
import Derived.Test.YtbidhpgjmcedaaaGreatDoorGBS
import Derived.Test.YtbidhpgjmcedaaaGreatDoorGBR
import Derived.Test.YtbidhpgjmcedaaaGreatDoorGAE
import Derived.Laws.ResultCell
import Derived.Laws.Rows
/- group.far: how far each place is away. -/
namespace Go.Proofs.YtbidhpgjmcedaaaGreatDoor
set_option linter.unusedVariables false
open Go.RowKit
/-- The row of distances and the queue. -/
structure FarW (w : World) (g c n : Nat) (rest : List Value) (F : Nat → Int) (b off cap : Nat) (W : List Nat) (wr : World) : Prop where
  bel : Below w.heap.size w wr
  dis : KBlk wr g 3 1 fI (tab n F) rest
  ge : w.heap.size ≤ g
  que : QueS w.heap.size b off cap (W.map Int.ofNat) wr
  ne : b ≠ g
section
variable {w wr W' : World} {g c n b off cap : Nat} {rest : List Value} {F : Nat → Int} {W : List Nat}
theorem FarW.call (h : FarW w g c n rest F b off cap W wr) (hb : Below wr.heap.size wr W') : FarW w g c n rest F b off cap W W' := ⟨h.bel.trans (hb.mono h.bel.size), h.dis.keep hb, h.ge, h.que.below hb, h.ne⟩
theorem FarW.set (h : FarW w g c n rest F b off cap W wr) (k : Nat) (hk : k < n) (z : Int) : FarW w g c n rest (setF F k z) b off cap W (wr.setCell ⟨g, k, none⟩ (.int .i64 z)) := by
  refine ⟨h.bel.setCell (p := ⟨g, k, none⟩) h.ge _, ?_, h.ge, h.que.other (fun e => h.ne e.symm) _, h.ne⟩
  have := h.dis.set1 k (by rw [tab_len]; exact hk) z
  rw [tab_set] at this
  exact this
theorem FarW.app (h : FarW w g c n rest F b off cap W wr) {b' off' cap' : Nat} {z : Nat} (hq : QueS w.heap.size b' off' cap' (W.map Int.ofNat ++ [(z : Int)]) W') (hg : wr.grownBy W' (some b)) (hb : b' = b ∨ wr.heap.size < b') : FarW w g c n rest F b' off' cap' (W ++ [z]) W' := by
  have hgl : g < wr.heap.size := lt_of_heap h.dis
  refine ⟨⟨hg.os.trans h.bel.os, hg.tape.trans h.bel.tape, hg.output.trans h.bel.output, Nat.le_trans h.bel.size hg.size, fun k hk => (hg.block k (Nat.lt_of_lt_of_le hk h.bel.size) (fun e => by injection e with e; have := h.que.ge; omega)).trans (h.bel.block k hk)⟩, (hg.block g hgl (fun e => by injection e with e; exact h.ne e.symm)).trans h.dis, h.ge, by simpa using hq, ?_⟩
  rcases hb with e | e
  · subst e; exact h.ne
  · omega
theorem FarW.tail {q : Nat} (h : FarW w g c n rest F b off cap (q :: W) wr) : FarW w g c n rest F b (off + 1) (cap - 1) W wr := ⟨h.bel, h.dis, h.ge, QueS.tail (by simpa using h.que), h.ne⟩
theorem FarW.tail1 {q : Nat} (h : FarW w g c n rest F b off 1 (q :: W) wr) : W = [] ∧ FarW w g c n rest F b off 0 W wr := by
  obtain ⟨e, hq⟩ := QueS.tail1 (x := (q : Int)) (xs := W.map Int.ofNat) (by simpa using h.que)
  exact ⟨by simpa using e, h.bel, h.dis, h.ge, hq, h.ne⟩
theorem FarW.cell (h : FarW w g c n rest F b off cap W wr) (k : Nat) (hk : k < n) : wr.cell? ⟨g, k, none⟩ = some (.int .i64 (F k)) := by
  have := h.dis.cell1 k (by rw [tab_len]; exact hk)
  rw [tab_get] at this
  exact this
/-- What the loop's measure reads: the queue's length and how many places are not reached. -/
def farM (g n : Nat) (t : Value) (wr : World) : Nat := (match t with | .slice _ k _ => k | _ => 0) + negN (fun i => match wr.cell? ⟨g, i, none⟩ with | some (.int _ z) => z | _ => 0) n
theorem FarW.mea (h : FarW w g c n rest F b off cap W wr) (A : Option Addr) : farM g n (.slice A W.length cap) wr = W.length + negN F n := by
  unfold farM
  rw [negN_congr (G := F) (fun i hi => by rw [h.cell i hi])]
end
end Go.Proofs.YtbidhpgjmcedaaaGreatDoor

/- group.far: the walk. -/
namespace Go.Proofs.YtbidhpgjmcedaaaGreatDoor
set_option linter.unusedVariables false
open Go.RowKit
/-- What far hands back. -/
def FarPost (w : World) (E : Nat → Nat → Prop) (n s : Nat) (e : Ending) (w' : World) : Prop :=
  ∃ (F : Nat → Int) (g c : Nat) (rest : List Value), e = .returned (.slice (some ⟨g, 0, none⟩) n c) ∧ KBlk w' g 3 1 fI (tab n F) rest ∧ w.heap.size ≤ g ∧ Below w.heap.size w w' ∧ FarD E n s F
set_option maxHeartbeats 4000000 in
set_option maxRecDepth 100000 in
theorem far_any {H : Frz} {gp bm nm : Nat} {m : Lit → Option Value} {r : RulD} {A : Option Addr} {cap : Nat} {ts : List TchD} (hG : GrpIn H gp bm nm m r A cap ts) (hw : SortI r.weaks) (hwl : r.weaks.length ≤ 1000000) (hkl : r.kinds.length ≤ 1000000) (hl : ts.length ≤ 100) (hfit : ∀ t ∈ ts, (∀ x ∈ t.ids, FitId x) ∧ t.ids.length ≤ 20) (s : Nat) (hs : s < ts.length) (w : World) (hH : H.In w) :
    Calls Tryz.prog 128 #[.pointer (some ⟨gp, 0, none⟩), .int .i64 s] w (FarPost w (Share (JD r ts) ts) ts.length s) := by
  have hin1 := hH.alloc (.cells #[.int .i64 (-1)] 3)
  have hn1 := new1 (w := w) (.cells #[.int .i64 (-1)] 3)
  have HB1 := Lib.hid hn1
  have g4 := cell_h (hin1 gp _ hG.obj) 4 (v := .slice A ts.length cap) rfl
  have HNB := Lib.hid (fun i hi W hW => neighbours_any hG hw hwl hkl hl hfit i hi W hW)
  have HRP := Lib.hid (repeatI_any w.heap.size ts.length (-1) (w.alloc (.cells #[.int .i64 (-1)] 3)) (heap_alloc_new w _) (by omega) hl)
  have HIN := Lib.hid (fun W (hW : Below w.heap.size w W) => hH.below hW)
  clear hG hw hfit hH hin1 hn1
  go_enter Tryz.func128, Tryz.ntmps128
  go_wp2_with fail
  refine HRP.out.mono ?_
  rintro e W1 ⟨⟨v, rfl, hO⟩, hb⟩
  have HB2 := Lib.hid (HB1.out.trans (hb.mono HB1.out.size))
  obtain ⟨g, c, rest, hv, hle, hB, hq, hm, hk, hr⟩ := hO.form (by intro e; have h := congrArg List.length e; rw [List.length_replicate, List.length_nil] at h; omega)
  subst hv
  simp only [List.length_replicate] at hle hm ⊢
  have hkt : KBlk W1 g 3 1 fI (tab ts.length fun _ => -1) rest := by
    have e : (tab ts.length fun _ => (-1 : Int)) = List.replicate ts.length (-1) := by
      apply List.ext_getElem (by simp [tab_len])
      intro i h3 h4
      rw [tab_get, List.getElem_replicate]
    rw [e]
    exact hk
  have HNG : Hid (w.heap.size ≤ g ∧ g < W1.heap.size) := ⟨Nat.le_trans HB1.out.size hB, lt_of_heap hk⟩
  have hset := hkt.set1 s (by rw [tab_len]; exact hs) (0 : Int)
  rw [tab_set] at hset
  have c0 := hkt.cell1 s (by rw [tab_len]; exact hs)
  have f0 := froz_h hkt s
  have HSET := Lib.hid hset
  have HB3 := Lib.hid (HB2.out.setCell (p := ⟨g, s, none⟩) HNG.out.1 (.int .i64 0))
  have hsi : (s : Int) < ts.length := by omega
  clear HRP hO hb hk hkt hset g4
  go_upto_region 4 with fail
  have hsz : (W1.setCell ⟨g, s, none⟩ (.int .i64 0)).heap.size = W1.heap.size := by simp [World.setCell]
  have FW0 : Hid (FarW w g c ts.length rest (fun i => if i = s then 0 else -1) (W1.setCell ⟨g, s, none⟩ (.int .i64 0)).heap.size 0 1 [s] ((W1.setCell ⟨g, s, none⟩ (.int .i64 0)).alloc (.cells #[.int .i64 (s : Int)] 3))) := by
    refine ⟨HB3.out.alloc (by have := HB3.out.size; omega) _, (HSET.out.keep (new1 _)), HNG.out.1, ⟨by rw [hsz]; have := HB2.out.size; exact this, by simp, _, heap_alloc_new _ _, by simp, fun j x hx => ?_⟩, by have := HNG.out.2; omega⟩
    match j with
    | 0 => obtain rfl := Option.some.inj hx; rfl
    | j + 1 => simp at hx
  have FI0 : Hid (FarI (Share (JD r ts) ts) ts.length s (fun i => if i = s then 0 else -1) [s] s []) := FarI.start hs
  have FL0 : Hid ([s].length + negN (fun i => if i = s then 0 else -1) ts.length ≤ ts.length) := by
    have h1 := FI0.out.top s hs
    have h2 := FI0.out.z
    show _ ≤ _
    rw [h2] at h1
    simp only [List.length_cons, List.length_nil]
    omega
  rw [hsz] at FW0
  clear HSET c0 f0
  generalize (W1.setCell ⟨g, s, none⟩ (.int .i64 0)).alloc (.cells #[.int .i64 (s : Int)] 3) = W2 at *
  generalize hFz : (fun i => if i = s then (0 : Int) else -1) = F0 at *
  go_loopw [6] (fun t wr => ∃ (F : Nat → Int) (b off cp : Nat) (Q : List Nat) (q : Nat), t = .slice (some ⟨b, off, none⟩) Q.length cp ∧ Hid (FarW w g c ts.length rest F b off cp Q wr) ∧ Hid (FarI (Share (JD r ts) ts) ts.length s F Q q []) ∧ Hid (Q.length + negN F ts.length ≤ ts.length)) (fun t wr => farM g ts.length t wr)
  case atStart => exact ⟨F0, W1.heap.size, 0, 1, [s], s, rfl, FW0, FI0, FL0⟩
  case round =>
    obtain ⟨F, b, off, cp, Q, q, rfl, J, I, LL⟩ := hrel
    clear FW0 FI0 FL0
    cases Q with
    | nil =>
      have HD : Hid (FarD (Share (JD r ts) ts) ts.length s F) := I.out.done (fun i j ⟨hi, hj, x, e1, e2, e3⟩ => ⟨⟨hj, hi, x, e1, e3, e2⟩, hi, hj⟩)
      have HE : Hid (FarPost w (Share (JD r ts) ts) ts.length s (.returned (.slice (some ⟨g, 0, none⟩) ts.length c)) wr) := ⟨F, g, c, rest, rfl, J.out.dis, J.out.ge, J.out.bel, HD.out⟩
      clear J I
      go_wp2_with fail
      exact bodyPost_ret (by kernel_rfl) rfl HE.out
    | cons p Q =>
      have cp0 := J.out.que.cell 0 (p : Int) rfl
      simp only [Nat.add_zero] at cp0
      obtain ⟨hpn, hp0⟩ := I.out.que p (by simp)
      have HNC := Lib.hid (HNB.out p hpn wr (HIN.out wr J.out.bel))
      have hlq : (0 : Int) < ((p :: Q).length : Int) := by rw [List.length_cons]; omega
      have hlq2 : 0 < (p :: Q).length := by simp
      have HM := Lib.hid (J.out.mea (some ⟨b, off, none⟩))
      have hLL := LL.out
      clear LL
      generalize hQ : (p :: Q).length = ql at *
      go_wp2_with fail
      refine HNC.out.mono ?_
      rintro e W3 ⟨v, zs, rfl, hO, hb3, hzl, hzs⟩
      obtain ⟨va, vc, hv, _⟩ := hO.slice
      subst hv
      have J3 := Lib.hid (J.out.call hb3)
      obtain ⟨ns, hns⟩ : ∃ ns : List Nat, zs = ns.map Int.ofNat := by
        refine ⟨zs.map Int.toNat, ?_⟩
        rw [List.map_map]
        have h : ∀ z ∈ zs, (Int.ofNat ∘ Int.toNat) z = z := fun z hz => by
          obtain ⟨j, rfl, _⟩ := (hzs z).1 hz
          rfl
        exact ((List.map_congr_left h).trans (List.map_id' zs)).symm
      have HZ : Hid (∀ k ∈ ns, Share (JD r ts) ts p k) := fun k hk => by
        obtain ⟨j, e, h⟩ := (hzs (k : Int)).1 (by rw [hns]; exact List.mem_map.2 ⟨k, hk, rfl⟩)
        obtain rfl : k = j := by omega
        exact h
      have I3 : Hid (FarI (Share (JD r ts) ts) ts.length s F Q p ns) := FarI.take (Or.inr ⟨q, I.out⟩) (fun k hk e => by
        have h := (hzs (k : Int)).2 ⟨k, rfl, e⟩
        rw [hns] at h
        obtain ⟨k', h1, h2⟩ := List.mem_map.1 h
        obtain rfl : k' = k := by exact Int.ofNat.inj h2
        exact h1)
      obtain ⟨ob, hob⟩ : ∃ ob, ob = wr.heap.size := ⟨_, rfl⟩
      have HLB : Hid (ob ≤ W3.heap.size) := by rw [hob]; exact hb3.size
      have HO := Lib.hid hO
      have HOB : Hid (∀ t, (Value.slice va zs.length vc).ownBlock = some t → t ≠ b ∧ t ≠ g) := fun t ht => by
        have h1 := (HO.out.lt ht).1
        have h2 := J.out.que.lt
        have h3 : g < wr.heap.size := lt_of_heap J.out.dis
        omega
      have hql : ql = Q.length + 1 := by rw [← hQ, List.length_cons]
      have hzn : zs.length = ns.length := by rw [hns, List.length_map]
      rw [← hob] at HO
      clear HNC I J hO hzs hb3 hob
      go_wp2_with fail
      go_loopw [6, 32] (fun v t wq => ∃ (j : Nat) (F' : Nat → Int) (b' off' cp' : Nat) (Q' : List Nat), j ≤ zs.length ∧ t = .int .i64 j ∧ v = .slice (some ⟨b', off', none⟩) (Q'.length + 1) cp' ∧ Hid (FarW w g c ts.length rest F' b' off' cp' (p :: Q') wq) ∧ Hid (FarI (Share (JD r ts) ts) ts.length s F' Q' p (ns.drop j)) ∧ Hid (Orow wq ob 3 1 fI (.slice va zs.length vc) zs) ∧ Hid (∀ t, (Value.slice va zs.length vc).ownBlock = some t → t ≠ b' ∧ t ≠ g) ∧ Hid (Q'.length + 1 + negN F' ts.length = ql + negN F ts.length)) (fun _ t _ => zs.length - (intOf t).toNat)
      case atStart => exact ⟨0, F, b, off, cp, Q, by omega, rfl, rfl, J3, I3, HO, HOB, by show _ = _; omega⟩
      case round =>
        obtain ⟨j, F', b', off', cp', Q', hj, rfl, rfl, JJ, II, OO, BB, MM⟩ := hrel
        by_cases hlt : j < zs.length
        · have hjn : j < ns.length := by omega
          obtain ⟨zg, zc, zrest, hzv, hzle, hzB, hzq, hzm, hzk, -⟩ := OO.out.form (by intro e; rw [e] at hlt; simp at hlt)
          cases hzv
          have cz : wr.cell? ⟨zg, j, none⟩ = some (.int .i64 (ns[j] : Int)) := by
            have h := hzk.cell1 j hlt
            have e : zs[j] = ((ns[j] : Nat) : Int) := by simp [hns]
            rw [e] at h
            exact h
          have hsh := HZ.out ns[j] (List.getElem_mem hjn)
          have hkn : ns[j] < ts.length := by obtain ⟨_, h, _⟩ := hsh; exact h
          have hII := II.out
          rw [List.drop_eq_getElem_cons hjn] at hII
          have HDR : Hid (∀ F'' Q'', FarI (Share (JD r ts) ts) ts.length s F'' Q'' p (ns.drop (j + 1)) → Hid (FarI (Share (JD r ts) ts) ts.length s F'' Q'' p (ns.drop (j + 1)))) := fun _ _ h => h
          have HII := Lib.hid hII
          generalize ns[j] = k at *
          clear II hII hzk
          have ck := JJ.out.cell k hkn
          have cq := JJ.out.que.cell 0 (p : Int) rfl
          simp only [Nat.add_zero] at cq
          have cp' := JJ.out.cell p hpn
          have hki : (k : Int) < ts.length := by omega
          have hpi : (p : Int) < ts.length := by omega
          have hkp : 0 ≤ (p : Int) := by omega
          by_cases hneg : F' k < 0
          · have hk2 : decide (F' k < 0) = true := by simpa using hneg
            obtain ⟨hN, hM⟩ := HII.out.new hkn hneg hsh
            have htp := HII.out.top p hpn
            have hge := HII.out.hq.2
            have hw9 : IntKind.i64.wrap (F' p + 1) = F' p + 1 := IntWalk.i64_in _ (by omega)
            have HN := Lib.hid hN
            have HM2 := Lib.hid hM
            have f0 := froz_h JJ.out.dis k
            clear hN hM htp hge HII hsh
            go_upto_region 11 with fail
            have J5 := Lib.hid (JJ.out.set k hkn (F' p + 1))
            have O5 := Lib.hid (OO.out.kept (row := some g) (grown_setC (World.grownBy.refl _ _) k (.int .i64 (F' p + 1))) (Or.inr (fun e => (BB.out g e).2 rfl)))
            clear JJ OO ck cq cp' cz f0 hw9 hk2 hneg
            generalize wr.setCell ⟨g, k, none⟩ (.int .i64 (F' p + 1)) = W5 at *
            have HLQ : Hid (((p :: Q').map Int.ofNat).length = Q'.length + 1) := by show _ = _; simp
            have hQB := J5.out.bel.size
            have hQL : ((p :: Q').map Int.ofNat).length ≤ 1000000 := by rw [HLQ.out]; have := MM.out; omega
            go_wp2_with (at_builtin; refine wpList_que rfl _ _ rfl J5.out.que hQB (by rw [HLQ.out]; go_simp) (k : Int) (by go_simp) hQL ?_; intro b6 off6 cap6 w6 q6 g6 d6; have HQ6 := Lib.hid q6; have HG6 := Lib.hid g6; have HD6 := Lib.hid d6; clear q6 g6 d6)
            have J6 := Lib.hid (J5.out.app HQ6.out HG6.out HD6.out)
            have O6 := Lib.hid (O5.out.kept HG6.out (Or.inr (fun e => (BB.out _ e).1 rfl)))
            have B6 : Hid (∀ t, (Value.slice (some ⟨zg, 0, none⟩) zs.length vc).ownBlock = some t → t ≠ b6 ∧ t ≠ g) := fun t ht => by
              refine ⟨?_, (BB.out t ht).2⟩
              have h1 := (O5.out.lt ht).2
              rcases HD6.out with e | e
              · rw [e]; exact (BB.out t ht).1
              · omega
            have M6 : Hid ((Q' ++ [k]).length + 1 + negN (setF F' k (F' p + 1)) ts.length = ql + negN F ts.length) := by
              have h1 := MM.out
              have h2 := HM2.out
              show _ = _
              simp only [List.length_append, List.length_cons, List.length_nil]
              omega
            have hl6 : ((p :: Q').map Int.ofNat).length + 1 = (Q' ++ [k]).length + 1 := by simp
            clear J5 O5 HQ6 HG6 HD6 BB MM HM2
            go_roundw
            case rel => exact ⟨j + 1, setF F' k (F' p + 1), b6, off6, cap6, Q' ++ [k], by omega, by go_num, by simp, J6, HN, O6, B6, M6⟩
            case measure => simp [intOf]; omega
          · have hk2 : decide (F' k < 0) = false := by simpa using hneg
            have HN := Lib.hid (HII.out.seen (by omega))
            clear HII hsh
            go_wp2_with fail
            go_roundw
            case rel => exact ⟨j + 1, F', b', off', _, Q', by omega, by go_num, rfl, JJ, HN, OO, BB, MM⟩
            case measure => simp [intOf]; omega
        · have hje : j = zs.length := by omega
          subst hje
          have hnj : ¬ ((zs.length : Int) < (zs.length : Int)) := by omega
          have I4 : Hid (FarI (Share (JD r ts) ts) ts.length s F' Q' p []) := by
            have := II.out
            rw [List.drop_of_length_le (by omega)] at this
            exact this
          by_cases hc1 : cp' = 1
          · subst hc1
            obtain ⟨hQ0, JT0⟩ := JJ.out.tail1
            subst hQ0
            have JT := Lib.hid JT0
            have hmm := Lib.hid (JT0.mea (some ⟨b', off', none⟩))
            clear JJ II OO BB JT0
            go_wp2_with fail
            refine ⟨⟨F', b', off', 0, [], p, rfl, JT, I4, by have := MM.out; show _ ≤ _; simp only [List.length_nil] at this ⊢; omega⟩, ?_⟩
            have h1 := hmm.out
            have h2 := MM.out
            simp only [List.length_nil] at h1 h2
            rw [h1, HM.out]
            omega
          · have JT := Lib.hid JJ.out.tail
            have hle := JJ.out.que.le
            have hmm := Lib.hid (JT.out.mea (some ⟨b', off' + 1, none⟩))
            clear JJ II OO BB
            go_wp2_with fail
            refine ⟨⟨F', b', off' + 1, _, Q', p, rfl, JT, I4, by have := MM.out; show _ ≤ _; omega⟩, ?_⟩
            have h1 := hmm.out
            have h2 := MM.out
            rw [h1, HM.out]
            omega
end Go.Proofs.YtbidhpgjmcedaaaGreatDoor

/- The id that two touches share. -/
namespace Go.Proofs.YtbidhpgjmcedaaaGreatDoor
set_option linter.unusedVariables false
open Go.RowKit
theorem res_cell_tmpS {P : Program} {fn : Func} {p u : Tmp} {ty : TypeId} (h : fn.results = #[.cell p ty, .tmp u]) (tmps : Array Value) (w : World) (g : Nat) (t : TypeId) (cs : Array Value) (fr : Nat × Nat) (d : TypeDesc)
    (hp : tmps.getD p undef = .pointer (some ⟨g, 0, none⟩)) (hg : w.heap[g]? = some (.cells cs t fr))
    (hu : P.underlying ty = some d) (hd : (match d with | .struct _ | .array _ _ => true | _ => false) = true) (hi : (P.info? ty).map (·.size) = some cs.size) :
    (results fn tmps).run P w = .ok (.tuple #[.agg cs, tmps.getD u undef]) w := by
  rw [results_cell_tmp h, hp]
  simp [asAddr, run_loadVar_row w g t ty cs fr d hg hu hd hi]
set_option maxHeartbeats 4000000 in
set_option maxRecDepth 100000 in
theorem shared_any {H : Frz} {gp bm nm : Nat} {m : Lit → Option Value} {r : RulD} {A : Option Addr} {cap : Nat} {ts : List TchD} (hG : GrpIn H gp bm nm m r A cap ts) (hw : SortI r.weaks) (hwl : r.weaks.length ≤ 1000000) (hkl : r.kinds.length ≤ 1000000) (hl : ts.length ≤ 100) (hfit : ∀ t ∈ ts, (∀ x ∈ t.ids, FitId x) ∧ t.ids.length ≤ 20) (hso : ∀ t ∈ ts, SortI t.ids) (i j : Nat) (hs : Share (JD r ts) ts i j) (w : World) (hH : H.In w) :
    Calls Tryz.prog 130 #[.pointer (some ⟨gp, 0, none⟩), .int .i64 i, .int .i64 j] w fun e w' => Below w.heap.size w w' ∧ ∃ x : IdD, e = .returned (.tuple #[.agg #[.int .i64 x.kind, .string x.text], .bool true]) ∧ JD r ts x = true ∧ ∃ (hi : i < ts.length) (hj : j < ts.length), x ∈ ts[i].ids ∧ x ∈ ts[j].ids := by
  obtain ⟨hi, hj, x0, hJ0, hx1, hx2⟩ := hs
  have hin0 := hH.alloc (.cells #[.int .i64 0, .string ⟨#[]⟩] 55)
  have HB0 := Lib.hid (new1 (w := w) (.cells #[.int .i64 0, .string ⟨#[]⟩] 55))
  have HRS := Lib.hid (heap_alloc_new w (.cells #[.int .i64 0, .string ⟨#[]⟩] 55))
  have hgo := hin0 gp _ hG.obj
  have g4 := cell_h hgo 4 (v := .slice A ts.length cap) rfl
  obtain ⟨b, off, hA, hbl, hc⟩ := hG.tch.1.at_ hin0 hi (by omega)
  obtain ⟨b', off', hA', hbl', hc'⟩ := hG.tch.1.at_ hin0 hj (by omega)
  rw [hA] at hA'
  simp only [Option.some.injEq, Addr.mk.injEq, and_true] at hA'
  obtain ⟨rfl, rfl⟩ := hA'
  have c3 : (w.alloc (.cells #[.int .i64 0, .string ⟨#[]⟩] 55)).cell? ⟨b, off + i * 5 + 3, none⟩ = some (.slice ts[i].ia ts[i].ids.length ts[i].ic) := hc 3 (by omega)
  have d3 : (w.alloc (.cells #[.int .i64 0, .string ⟨#[]⟩] 55)).cell? ⟨b, off + j * 5 + 3, none⟩ = some (.slice ts[j].ia ts[j].ids.length ts[j].ic) := hc' 3 (by omega)
  have HIR := Lib.hid (hG.tch.2 _ (List.getElem_mem hi)).1
  have HJR := Lib.hid (hG.tch.2 _ (List.getElem_mem hj)).1
  have HFT := Lib.hid (hfit _ (List.getElem_mem hi)).1
  have hil := (hfit _ (List.getElem_mem hi)).2
  have hjl := (hfit _ (List.getElem_mem hj)).2
  have HSJ := Lib.hid (hso _ (List.getElem_mem hj))
  have HJA := Lib.hid (fun x hx W hW => joins_any hG hw hwl hkl x hx W hW)
  have HG := Lib.hid hG
  have HX0 : Hid (x0 ∈ ts[i].ids ∧ JD r ts x0 = true ∧ hasId ts[j].ids x0 = true) := ⟨hasId_iff.1 hx1, hJ0, hx2⟩
  have HIN := Lib.hid hin0
  have hi2 : (i : Int) < ts.length := by omega
  have hj2 : (j : Int) < ts.length := by omega
  have HPOST : Hid (∀ (W' : World) (x : IdD), Below w.heap.size w W' → JD r ts x = true → x ∈ ts[i].ids → x ∈ ts[j].ids → (Below w.heap.size w W' ∧ ∃ x' : IdD, Ending.returned (.tuple #[.agg #[.int .i64 x.kind, .string x.text], .bool true]) = .returned (.tuple #[.agg #[.int .i64 x'.kind, .string x'.text], .bool true]) ∧ JD r ts x' = true ∧ ∃ (hi : i < ts.length) (hj : j < ts.length), x' ∈ ts[i].ids ∧ x' ∈ ts[j].ids)) := fun W' x h1 h2 h3 h4 => ⟨h1, x, rfl, h2, hi, hj, h3, h4⟩
  subst hA
  clear hG hw hfit hso hH hgo hc hc' hbl hbl' hJ0 hx1 hx2 hin0
  generalize ts[i] = u at *
  generalize ts[j] = v at *
  go_enter Tryz.func130, Tryz.ntmps130
  go_upto_region 1 with (fail)
  generalize w.alloc (.cells #[.int .i64 0, .string ⟨#[]⟩] 55) = W0 at *
  have G4 := lift_cell g4
  have D3 := lift_cell d3
  go_wp2_with fail
  clear g4 c3 d3
  go_loopw [21] (fun t wr => ∃ k : Nat, k ≤ u.ids.length ∧ t = .int .i64 k ∧ Hid (Below W0.heap.size W0 wr) ∧ Hid (∀ x ∈ u.ids.take k, ¬ (JD r ts x = true ∧ hasId v.ids x = true))) (fun t _ => u.ids.length - (intOf t).toNat)
  case atStart => exact ⟨0, by omega, rfl, Below.refl _ _, fun x hx => by simp at hx⟩
  case round =>
    obtain ⟨k, hk, rfl, HB, HNO⟩ := hrel
    have hin := HIN.out.below HB.out
    by_cases hlt : k < u.ids.length
    · obtain ⟨b2, off2, hA2, hbl2, hc2⟩ := HIR.out.at_ hin hlt (by omega)
      have c0 : wr.cell? ⟨b2, off2 + k * 2, none⟩ = some (.int .i64 u.ids[k].kind) := hc2 0 (by omega)
      have c1 : wr.cell? ⟨b2, off2 + k * 2 + 1, none⟩ = some (.string u.ids[k].text) := hc2 1 (by omega)
      have hfx := HFT.out _ (List.getElem_mem hlt)
      have HMU := Lib.hid (List.getElem_mem hlt)
      have HNX : Hid (¬ (JD r ts u.ids[k] = true ∧ hasId v.ids u.ids[k] = true) → ∀ x ∈ u.ids.take (k + 1), ¬ (JD r ts x = true ∧ hasId v.ids x = true)) := fun h x hx => by
        rw [List.take_succ_eq_append_getElem hlt] at hx
        rcases List.mem_append.1 hx with hx | hx
        · exact HNO.out x hx
        · simp at hx; rw [hx]; exact h
      obtain ⟨ia, hia⟩ : ∃ ia, u.ia = ia := ⟨_, rfl⟩
      rw [hia] at hA2 ⊢
      subst hA2
      clear hc2 hbl2
      generalize u.ids[k] = x at *
      have HXB := Lib.hid (heap_alloc_new wr (.cells #[.int .i64 x.kind, .string x.text] 55))
      have HB1 := Lib.hid (HB.out.trans ((new1 (w := wr) (.cells #[.int .i64 x.kind, .string x.text] 55)).mono HB.out.size))
      clear HB hin HNO
      go_upto_region 4 with (fail)
      clear c0 c1 hia
      generalize wr.alloc (.cells #[.int .i64 x.kind, .string x.text] 55) = W1 at *
      generalize wr.heap.size = xb at *
      have HIN1 := Lib.hid (HIN.out.below HB1.out)
      have K4 := lift_cell (G4 W1 HB1.out)
      have K3 := lift_cell (D3 W1 HB1.out)
      have J0 := lift_cell (cell_h HXB.out 0 (v := .int .i64 x.kind) rfl)
      have J1 := lift_cell (cell_h HXB.out 1 (v := .string x.text) rfl)
      have HBS := Lib.hid (fun W (hW : Below W1.heap.size W1 W) => bsf_Id H fId 36 (fId x) (fun y => idCmp y x) v.ids (fun W d _ _ => (compareIds_g d x W).mono (fun e W' h => ⟨h.1, h.2.below⟩)) (fun a b W => rfl) v.ia v.ic W (HIN1.out.below hW) HJR.out (by omega) (aheadI v.ids x) (ahead_cut HSJ.out x).1 (ahead_cut HSJ.out x).2.1 (ahead_cut HSJ.out x).2.2.1)
      have HHA := Lib.hid (ahead_cut HSJ.out x).2.2.2
      (refine wp_region_det 14 47 (fun W => Below (W1).heap.size (W1) W) (by kernel_rfl) (by kernel_rfl) (by rfl) (Below.refl _ _).drew ?_; simp only [List.take_succ_cons, List.take_zero, List.drop_succ_cons, List.drop_zero])
      iterate 9 (refine detSeq_op rfl ?_ (fun W hW => ?_) ?_; rotate_left; (focus simp only [OpV]; go_simp; first | exact rfl | exact ⟨rfl, hW⟩))
      (refine detSeq_op rfl ?_ (fun W hW => ?_) ?_; rotate_left; focus (simp only [OpV]; go_simp; refine (HBS.out W hW).mono ?_; rintro e w' ⟨rfl, hb⟩; refine ⟨_, rfl, ?_, det_back hW hb⟩; exact rfl))
      iterate 4 (refine detSeq_op rfl ?_ (fun W hW => ?_) ?_; rotate_left; (focus simp only [OpV]; go_simp; first | exact rfl | exact ⟨rfl, hW⟩))
      refine detSeq_nil (fun W2 hW2 => ?_)
      have HXB2 := Lib.hid ((hW2.block xb (lt_of_heap HXB.out)).trans HXB.out)
      have HB2 := Lib.hid (HB1.out.trans (hW2.mono HB1.out.size))
      have HIN2 := Lib.hid (HIN1.out.below hW2)
      clear hW2 K4 K3 J0 J1 HBS HB1 HXB HIN1
      rw [HHA.out]
      clear HHA
      generalize hq : hasId v.ids x = q at *
      have HQ := Lib.hid hq
      clear hq
      have hfx2 := Lib.hid hfx
      clear hfx
      cases q with
      | false =>
        have hnx := Lib.hid (HNX.out (fun c => by cases c.2))
        go_wp2_with fail
        go_roundw
        case rel => exact ⟨k + 1, by omega, by go_num, HB2, hnx⟩
        case measure => simp [intOf]; omega
      | true =>
        have HJC := Lib.hid (HJA.out x hfx2.out W2 HIN2.out)
        have x0' := cell_h HXB2.out 0 (v := .int .i64 x.kind) rfl
        have x1' := cell_h HXB2.out 1 (v := .string x.text) rfl
        generalize hjv : joinsD r.kinds r.most r.weaks ts x = jv at HJC
        have HJV : Hid (JD r ts x = jv) := hjv
        clear hjv
        go_wp2_with fail
        refine HJC.out.mono ?_
        rintro e W3 ⟨rfl, hb3⟩
        have HB3 := Lib.hid (HB2.out.trans (hb3.mono HB2.out.size))
        have HXB3 := Lib.hid ((hb3.block xb (lt_of_heap HXB2.out)).trans HXB2.out)
        clear hb3 HJC x0' x1' HXB2 HIN2 HB2
        cases jv with
        | false =>
          have hnx := Lib.hid (HNX.out (fun c => by have := c.1; rw [HJV.out] at this; cases this))
          go_wp2_with fail
          go_roundw
          case rel => exact ⟨k + 1, by omega, by go_num, HB3, hnx⟩
          case measure => simp [intOf]; omega
        | true =>
          have hrs := (HB3.out.block w.heap.size (lt_of_heap HRS.out)).trans HRS.out
          have r0 := cell_h hrs 0 (v := .int .i64 0) rfl
          have r1 := cell_h hrs 1 (v := .string ⟨#[]⟩) rfl
          have f0 := froz_h hrs 0
          have f1 := froz_h hrs 1
          have x0' := cell_h HXB3.out 0 (v := .int .i64 x.kind) rfl
          have x1' := cell_h HXB3.out 1 (v := .string x.text) rfl
          have hh9 : ((W3.setCell ⟨w.heap.size, 0, none⟩ (.int .i64 x.kind)).setCell ⟨w.heap.size, 1, none⟩ (.string x.text)).heap[w.heap.size]? = some (.cells #[.int .i64 x.kind, .string x.text] 55 (0, 0)) := by simp [World.setCell, Array.getElem?_modify, hrs]
          have hF := HPOST.out ((W3.setCell ⟨w.heap.size, 0, none⟩ (.int .i64 x.kind)).setCell ⟨w.heap.size, 1, none⟩ (.string x.text)) x (((HB0.out.trans (HB3.out.mono HB0.out.size)).setCell (p := ⟨w.heap.size, 0, none⟩) (Nat.le_refl _) _).setCell (p := ⟨w.heap.size, 1, none⟩) (Nat.le_refl _) _) HJV.out HMU.out (hasId_iff.1 HQ.out)
          go_wp2_with fail
          (try simp only [Exit.inBlock, Exit.then])
          refine bodyPost_ret (res_cell_tmpS rfl _ _ w.heap.size 55 _ (0, 0) _ rfl hh9 Tryz.underlying55 rfl (by kernel_rfl)) rfl ?_
          exact hF
    · exfalso
      have hke : k = u.ids.length := by omega
      subst hke
      rw [List.take_length] at HNO
      exact HNO.out x0 HX0.out.1 ⟨HX0.out.2.1, HX0.out.2.2⟩
end Go.Proofs.YtbidhpgjmcedaaaGreatDoor
