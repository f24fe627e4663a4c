/- Texts of this claim, put together: IxS, Order, SameP, AllTch, ClonePer, CopyPer, AllPer. -/
import Derived.Test.YtbidhpgjmcedaaaGreatDoorGBW
import Derived.Test.YtbidhpgjmcedaaaGreatDoorGCB
import Derived.Test.YtbidhpgjmcedaaaGreatDoorGBH
import Derived.Test.YtbidhpgjmcedaaaGreatDoorGAQ
import Derived.Test.YtbidhpgjmcedaaaGreatDoorGAN
import Derived.Test.YtbidhpgjmcedaaaGreatDoorGAH
import Derived.Test.YtbidhpgjmcedaaaGreatDoorGAE
import Derived.Test.YtbidhpgjmcedaaaGreatDoorGBE
import Derived.Test.YtbidhpgjmcedaaaGreatDoorGBX
import Derived.Test.YtbidhpgjmcedaaaGreatDoorGBZ
import Derived.Test.YtbidhpgjmcedaaaGreatDoorGBR
import Derived.Test.YtbidhpgjmcedaaaGreatDoorGAC
import Derived.StillTailTactics
import Derived.Deep.Cut
import Derived.Test.YtbidhpgjmcedaaaGreatDoorGAW
import Derived.Test.YtbidhpgjmcedaaaGreatDoorGAZ
import Derived.Test.YtbidhpgjmcedaaaGreatDoorGBI
import Derived.Laws.Rows
namespace Go.Proofs.YtbidhpgjmcedaaaGreatDoor
set_option linter.unusedVariables false
open Go.RowKit
structure IxS0 (H6 : Frz) (w : World) (bs K xb : Nat) (r : RulD) (ts : List TchD) (D : Nat → Bool) (W : World) (H : Frz) (A : Option Addr) (cap : Nat) (us : List TchD) (Ap : Option Addr) (cp : Nat) (ps : List PerD) (rr : List Nat) : Prop where
 lw : Lw w bs K H W
 le : H6.Le H
 hx : H xb = none
 bx : bs < xb
 obj : W.heap[xb]? = some (.cells (idxCells r (.slice A us.length cap) (.slice Ap ps.length cp)) 171 (0, 0))
 rul : RulIn H r
 tch : TchIn H A us
 per : PerIn H Ap ps
 uf : Uf (Share (JD r us) us) rr
 pq : PersQ (JD r us) us (repN rr) ps
 eq : us.map bare = (selL D ts).map bare
def IxS (H6 : Frz) (w : World) (bs K xb : Nat) (r : RulD) (ts : List TchD) (D : Nat → Bool) (W : World) : Prop := ∃ H A cap us Ap cp ps rr, IxS0 H6 w bs K xb r ts D W H A cap us Ap cp ps rr
section
variable {H6 H : Frz} {w W W' : World} {bs K xb : Nat} {r : RulD} {ts us : List TchD} {D D' : Nat → Bool} {A Ap : Option Addr} {cap cp : Nat} {ps : List PerD} {rr : List Nat}
theorem IxS0.call (h : IxS0 H6 w bs K xb r ts D W H A cap us Ap cp ps rr) (hb : Below W.heap.size W W') : IxS0 H6 w bs K xb r ts D W' H A cap us Ap cp ps rr :=
 ⟨h.lw.call hb, h.le, h.hx, h.bx, (hb.block xb (lt_of_heap h.obj)).trans h.obj, h.rul, h.tch, h.per, h.uf, h.pq, h.eq⟩
theorem IxS0.turn {K' : Nat} (h : IxS0 H6 w bs K xb r ts D W H A cap us Ap cp ps rr) (hl : Lw w bs K' H W') (hg : W.grownBy W' (some bs)) : IxS0 H6 w bs K' xb r ts D W' H A cap us Ap cp ps rr :=
 ⟨hl, h.le, h.hx, h.bx, (hg.block xb (lt_of_heap h.obj) (by intro c; injection c with c; have := h.bx; omega)).trans h.obj, h.rul, h.tch, h.per, h.uf, h.pq, h.eq⟩
theorem IxS0.len (h : IxS0 H6 w bs K xb r ts D W H A cap us Ap cp ps rr) : us.length ≤ ts.length := by
 rw [bare_len h.eq]
 exact (selL_sub D ts).length_le
theorem IxS0.right (h : IxS0 H6 w bs K xb r ts D W H A cap us Ap cp ps rr) (hts : ∀ t ∈ ts, RightT t) : ∀ u ∈ us, RightT u := fun u hu => by
 obtain ⟨t, ht, e⟩ := sel_mem h.eq hu
 exact right_bare e (hts t ht)
theorem IxS0.psok (h : IxS0 H6 w bs K xb r ts D W H A cap us Ap cp ps rr) (hts : ∀ t ∈ ts, RightT t) (hl : ts.length ≤ 100) : PsOk ps := psOk_of h.pq (Nat.le_trans h.len hl) (h.right hts)
theorem IxS0.chg (h : IxS0 H6 w bs K xb r ts D W H A cap us Ap cp ps rr) {vs : List TchD} {e : Ending} (hp : ChgPost r xb vs H W e W') (hv : vs.map bare = (selL D' ts).map bare) : (∃ A6 n6 c6, e = .returned (.tuple #[.slice A6 n6 c6, .int .i64 0])) ∧ IxS H6 w bs K xb r ts D' W' := by
 obtain ⟨A6, n6, c6, A', cap', us', Ap', cp', ps', rr', he, hm, ho, ht, hpp, hu, hq, hg⟩ := hp
 have hL := h.lw.grown hg (fun g e => by injection e with e; subst e; exact ⟨h.bx, h.hx⟩)
 have hle : H.Le (H.all W' W.heap.size) := Frz.le_all h.lw.fin (Nat.le_refl _)
 refine ⟨⟨A6, n6, c6, he⟩, H.all W' W.heap.size, A', cap', us', Ap', cp', ps', rr', ⟨⟨hL.st, hL.bel, hL.le, Frz.In.all hL.fin _, by rw [Frz.all_lt h.lw.lt]; exact hL.apart⟩, h.le.trans hle, by rw [Frz.all_lt (lt_of_heap h.obj)]; exact h.hx, h.bx, ho, h.rul.le hle, ht, hpp, hu, hq, hm.trans hv⟩⟩
theorem persQ_nil (J : IdD → Bool) (rep : Nat → Nat) : PersQ J [] rep [] := ⟨rfl, fun k h => absurd h (by simp [rts]), fun k h => absurd h (by simp [rts]), fun k h => absurd h (by simp [rts])⟩
theorem uf_nil (J : IdD → Bool) : Uf (Share J []) [] := (Uf.start 0).iff_ fun i j => ⟨fun h => h.elim, fun ⟨h, _⟩ => absurd h (by simp)⟩
end
open Go.RowKit
def Places (n : Nat) (zs : List Int) : Prop := zs.Nodup ∧ ∀ z ∈ zs, ∃ q : Nat, q < n ∧ z = (q : Int)
theorem Places.snoc {n : Nat} {zs : List Int} (h : Places n zs) : Places (n + 1) (zs ++ [(n : Int)]) := by
 refine ⟨?_, fun z hz => ?_⟩
 ·rw [List.nodup_append]
  refine ⟨h.1, by simp, fun a ha b hb => ?_⟩
  obtain ⟨q, hq, rfl⟩ := h.2 a ha
  simp at hb
  omega
 ·rcases List.mem_append.1 hz with hz | hz
  ·obtain ⟨q, hq, e⟩ := h.2 z hz
   exact ⟨q, by omega, e⟩
  ·simp at hz
   exact ⟨n, by omega, hz⟩
theorem Places.swap {n : Nat} {zs : List Int} (h : Places n zs) {i k : Nat} (hi : i < zs.length) (hk : k < zs.length) : Places n ((zs.set i zs[k]).set k zs[i]) := by
 refine ⟨?_, fun z hz => ?_⟩
 ·have h0 := List.pairwise_iff_getElem.1 h.1
  have inj : ∀ a b (ha : a < zs.length) (hb : b < zs.length), zs[a] = zs[b] → a = b := fun a b ha hb e => by
   rcases Nat.lt_trichotomy a b with c | c | c
   ·exact absurd e (h0 a b ha hb c)
   ·exact c
   ·exact absurd e.symm (h0 b a hb ha c)
  let σ : Nat → Nat := fun m => if m = k then i else if m = i then k else m
  have hσ : ∀ m, m < zs.length → σ m < zs.length := fun m hm => by
   show (if m = k then i else if m = i then k else m) < _
   split
   ·exact hi
   ·split
    ·exact hk
    ·exact hm
  have hget : ∀ m (hm : m < zs.length), ((zs.set i zs[k]).set k zs[i])[m]? = some (zs[σ m]'(hσ m hm)) := fun m hm => by
   rw [List.getElem?_set]
   by_cases h1 : k = m
   ·rw [if_pos h1, if_pos (by rw [List.length_set]; exact hk)]
    have e : σ m = i := if_pos h1.symm
    simp only [e]
   ·rw [if_neg h1, List.getElem?_set]
    by_cases h2 : i = m
    ·rw [if_pos h2, if_pos hi]
     have e : σ m = k := (if_neg (Ne.symm h1)).trans (if_pos h2.symm)
     simp only [e]
    ·rw [if_neg h2, List.getElem?_eq_getElem hm]
     have e : σ m = m := (if_neg (Ne.symm h1)).trans (if_neg (Ne.symm h2))
     simp only [e]
  have hinj : ∀ a b, σ a = σ b → a = b := fun a b e => by
   have e' : (if a = k then i else if a = i then k else a) = (if b = k then i else if b = i then k else b) := e
   split at e' <;> split at e' <;> (try split at e') <;> (try split at e') <;> omega
  refine List.pairwise_iff_getElem.2 fun a b ha hb hab => ?_
  simp only [List.length_set] at ha hb
  intro e
  have e1 := hget a ha
  have e2 := hget b hb
  rw [List.getElem?_eq_getElem (by simp only [List.length_set]; exact ha)] at e1
  rw [List.getElem?_eq_getElem (by simp only [List.length_set]; exact hb)] at e2
  have e3 := (Option.some.inj e1).symm.trans (e.trans (Option.some.inj e2))
  have := hinj a b (inj _ _ (hσ a ha) (hσ b hb) e3)
  omega
 ·rcases List.mem_or_eq_of_mem_set hz with hz | hz
  ·rcases List.mem_or_eq_of_mem_set hz with hz | hz
   ·exact h.2 z hz
   ·rw [hz]; exact h.2 _ (List.getElem_mem hk)
  ·rw [hz]; exact h.2 _ (List.getElem_mem hi)
def OrderPost (w : World) (bs K : Nat) (H : Frz) (n : Nat) (W : World) (e : Ending) (W' : World) : Prop := ∃ (v : Value) (zs : List Int), e = .returned v ∧ zs.length = n ∧ Places n zs ∧ Orow W' W.heap.size 3 1 fI v zs ∧ Lw w bs (K + n) H W' ∧ W.grownBy W' (some bs)
set_option maxHeartbeats 4000000 in
set_option maxRecDepth 100000 in
theorem Lw.order {w W : World} {bs K : Nat} {H : Frz} (h : Lw w bs K H W) (hK : K ≤ 1000000) (n : Nat) (hn : n ≤ 1000) :
  Calls Tryz.prog 45 #[.pointer (some ⟨bs, 0, none⟩), .int .i64 n] W (OrderPost w bs K H n W) := by
 obtain ⟨i0, hi0, hz0, hz1, hz2⟩ := info_parts (show (Tryz.prog.info? 3).map (fun i => (i.zero, i.size, i.bytes)) = some (some (.int .i64 0), 1, 8) by kernel_rfl)
 have HI0 := Lib.hid hi0
 have HL := Lib.hid h
 have HPP : Hid (∀ v zs W', zs.length = n → Places n zs → Orow W' W.heap.size 3 1 fI v zs → Lw w bs (K + n) H W' → W.grownBy W' (some bs) → OrderPost w bs K H n W (.returned v) W') := fun v zs W' h1 h2 h3 h4 h5 => ⟨v, zs, rfl, h1, h2, h3, h4, h5⟩
 clear h hi0
 go_enter Tryz.func45, Tryz.ntmps45
 go_wp2_with fail
 go_loopw [5, 10] (fun v t wr => ∃ (i : Nat) (zs : List Int) (va : Option Addr) (vc : Nat), zs.length = i ∧ i ≤ n ∧ v = .slice va i vc ∧ t = .int .i64 i ∧ Hid (Places i zs) ∧ Hid (Orow wr W.heap.size 3 1 fI (.slice va i vc) zs) ∧ Hid (Below W.heap.size W wr)) (fun _ t _ => n - (intOf t).toNat)
 case atStart => exact ⟨0, [], none, 0, rfl, by omega, rfl, rfl, ⟨List.nodup_nil, fun z hz => absurd hz (by simp)⟩, Orow.nil _ _ _ _ _, Below.refl _ _⟩
 case round =>
  obtain ⟨i, zs, va, vc, hzi, hi, rfl, rfl, P, O, B⟩ := hrel
  by_cases hlt : i < n
  ·have hB := B.out.size
   have HP2 := Lib.hid P.out.snoc
   subst hzi
   go_wp2_with (at_builtin; refine wpList_app rfl _ _ 22 rfl W.heap.size 3 i0 (.int .i64 0) 1 8 Tryz.underlying22 HI0.out hz0 hz1 hz2 rfl (by decide) fI _ zs rfl O.out (zs.length : Int) #[.int .i64 zs.length] 3 rfl rfl (by simp [Value.oneCell']) (by omega) (by omega) hB ?_; intro v1 w9 o1 g1 b1; have HO9 := Lib.hid o1; have HBW := Lib.hid (B.out.trans b1); clear o1 g1 b1)
   obtain ⟨A9, c9, e9, -⟩ := HO9.out.slice
   subst e9
   rw [List.length_append] at HO9
   simp only [List.length_cons, List.length_nil] at HO9
   clear B O P
   go_roundw
   case rel => exact ⟨zs.length + 1, zs ++ [(zs.length : Int)], A9, c9, by simp, by omega, by simp, by go_num, HP2, HO9, HBW⟩
   case measure => simp [intOf]; omega
  ·have hie : i = n := by omega
   subst hie
   have HL1 := Lib.hid (HL.out.call B.out)
   have HSZ : Hid (W.grownBy wr (some bs)) := ⟨B.out.os, B.out.tape, B.out.output, B.out.size, fun k hk _ => B.out.block k hk⟩
   have HBS : Hid (bs < W.heap.size ∧ H bs = none) := ⟨HL.out.lt, HL.out.apart⟩
   have HHN : Hid (∀ q, W.heap.size ≤ q → H q = none) := fun q hq => HL.out.fin.none_ hq
   clear B HL
   go_wp2_with fail
   go_loopw [7] (fun t wq => ∃ (j : Nat) (zs : List Int), t = .int .i64 ((i : Int) - 1 - j) ∧ j ≤ i ∧ zs.length = i ∧ Hid (Places i zs) ∧ Hid (Orow wq W.heap.size 3 1 fI (.slice va i vc) zs) ∧ Hid (Lw w bs (K + j) H wq) ∧ Hid (W.grownBy wq (some bs))) (fun t _ => (intOf t + 1).toNat)
   case atStart => exact ⟨0, zs, by simp, by omega, hzi, P, O, HL1, HSZ⟩
   case round =>
    obtain ⟨j, zs, rfl, hj, hzi, P, O, HL, HS⟩ := hrel
    clear HL1 HSZ
    by_cases hlt : 0 < (i : Int) - 1 - j
    ·obtain ⟨d, hd⟩ : ∃ d : Nat, (i : Int) - 1 - j = d := ⟨i - 1 - j, by omega⟩
     rw [hd] at hlt ⊢
     have hdi : d < i := by omega
     have HD := Lib.hid hd
     clear hd
     obtain ⟨g, c9, rest, hv, hle, hBg, hgq, hm, hk, hr⟩ := O.out.form (by intro e; rw [e] at hzi; simp at hzi; omega)
     rw [hzi] at hv hle hr
     cases hv
     have HK := Lib.hid hk
     have HRL : Hid (vc ≤ maxLen ∧ i ≤ vc ∧ rest.length = vc * 1 - i * 1 ∧ W.heap.size ≤ g) := ⟨hm, hle, hr, hBg⟩
     have hN := Lib.hid (HL.out.next ((d : Int) + 1) (by omega) (by omega))
     have hw1 : IntKind.i64.wrap ((d : Int) + 1) = (d : Int) + 1 := IntWalk.i64_in _ (by omega)
     have hw2 : IntKind.i64.wrap ((d : Int) - 1) = (d : Int) - 1 := IntWalk.i64_in _ (by omega)
     clear hk hm hle hr hBg hgq O HL
     go_wp2_with fail
     refine hN.out.mono ?_
     rintro e W2 ⟨r, rfl, hr0, hr1, -, hL2, hg2, hs2⟩
     obtain ⟨k, rfl⟩ := Int.eq_ofNat_of_zero_le hr0
     have hkd : k < d + 1 := by have := hr1 (by omega); omega
     have HL2 := Lib.hid hL2
     have hK2 : KBlk W2 g 3 1 fI zs rest := (hg2.block g (lt_of_heap HK.out) (by intro c; injection c with c; have h1 := HBS.out.1; have h2 := HRL.out.2.2.2; omega)).trans HK.out
     have hki : k < zs.length := by omega
     have hdz : d < zs.length := by omega
     have c1 : W2.cell? ⟨g, k, none⟩ = some (.int .i64 zs[k]) := hK2.cell1 k hki
     have c2 : W2.cell? ⟨g, d, none⟩ = some (.int .i64 zs[d]) := hK2.cell1 d hdz
     have f1 := hK2.frozen k
     have f2 := hK2.frozen d
     have hki2 : (k : Int) < (i : Int) := by omega
     have hdi2 : (d : Int) < (i : Int) := by omega
     have HS2 : Hid (W.grownBy W2 (some bs)) := ⟨hg2.os.trans HS.out.os, hg2.tape.trans HS.out.tape, hg2.output.trans HS.out.output, Nat.le_trans HS.out.size hg2.size, fun k hk hne => (hg2.block k (Nat.lt_of_lt_of_le hk HS.out.size) hne).trans (HS.out.block k hk hne)⟩
     have hset := hK2.set1 d hdz zs[k]
     have hks : k < (zs.set d zs[k]).length := by rw [List.length_set]; exact hki
     have hset2 := hset.set1 k hks zs[d]
     have c3 : (W2.setCell ⟨g, d, none⟩ (.int .i64 zs[k])).cell? ⟨g, k, none⟩ = some (.int .i64 (zs.set d zs[k])[k]) := hset.cell1 k hks
     have f3 : (W2.setCell ⟨g, d, none⟩ (.int .i64 zs[k])).frozen? ⟨g, k, none⟩ = false := hset.frozen k
     have HK3 : Hid (KBlk ((W2.setCell ⟨g, d, none⟩ (.int .i64 zs[k])).setCell ⟨g, k, none⟩ (.int .i64 zs[d])) g 3 1 fI ((zs.set d zs[k]).set k zs[d]) rest) := hset2
     have HP3 := Lib.hid (P.out.swap hdz hki)
     have hbg : bs < g := by have h1 := HBS.out.1; have h2 := HRL.out.2.2.2; omega
     have HL3 : Hid (H g = none → Lw w bs (K + j + 1) H ((W2.setCell ⟨g, d, none⟩ (.int .i64 zs[k])).setCell ⟨g, k, none⟩ (.int .i64 zs[d]))) := fun h => (HL2.out.setCell (p := ⟨g, d, none⟩) hbg h _).setCell (p := ⟨g, k, none⟩) hbg h _
     have HHG : Hid (H g = none) := HHN.out g HRL.out.2.2.2
     generalize (zs.set d zs[k])[k] = z9 at c3
     clear hset hset2 hks hbg hL2 hg2 hs2 hr1 hN HK hK2 hr0
     go_wp2_with fail
     go_region
     have HL4 := Lib.hid ((HL3.out HHG.out).call (W' := ((W2.setCell ⟨g, d, none⟩ (.int .i64 zs[k])).setCell ⟨g, k, none⟩ (.int .i64 zs[d])).drew) ⟨rfl, rfl, rfl, Nat.le_refl _, fun _ _ => rfl⟩)
     have HO4 : Hid (Orow ((W2.setCell ⟨g, d, none⟩ (.int .i64 zs[k])).setCell ⟨g, k, none⟩ (.int .i64 zs[d])).drew W.heap.size 3 1 fI (.slice (some ⟨g, 0, none⟩) i vc) ((zs.set d zs[k]).set k zs[d])) := by
      have hl9 : ((zs.set d zs[k]).set k zs[d]).length = i := by rw [List.length_set, List.length_set]; exact hzi
      have hk4 : KBlk ((W2.setCell ⟨g, d, none⟩ (.int .i64 zs[k])).setCell ⟨g, k, none⟩ (.int .i64 zs[d])).drew g 3 1 fI ((zs.set d zs[k]).set k zs[d]) rest := HK3.out
      have h := Orow.of_blk hk4 HRL.out.2.2.2 HRL.out.1 (by rw [hl9]; exact HRL.out.2.1) (by rw [hl9]; exact HRL.out.2.2.1)
      rw [hl9] at h
      exact h
     have HS4 : Hid (W.grownBy ((W2.setCell ⟨g, d, none⟩ (.int .i64 zs[k])).setCell ⟨g, k, none⟩ (.int .i64 zs[d])).drew (some bs)) := by
      have hgW := HRL.out.2.2.2
      refine ⟨HS2.out.os, HS2.out.tape, HS2.out.output, by simpa [World.setCell, World.drew] using HS2.out.size, fun q hq hne => ?_⟩
      show ((W2.setCell ⟨g, d, none⟩ (.int .i64 zs[k])).setCell ⟨g, k, none⟩ (.int .i64 zs[d])).heap[q]? = _
      rw [Below.heap_setCell _ ⟨g, k, none⟩ _ q (by show q ≠ g; omega), Below.heap_setCell _ ⟨g, d, none⟩ _ q (by show q ≠ g; omega)]
      exact HS2.out.block q hq hne
     have hl9 : ((zs.set d zs[k]).set k zs[d]).length = i := by rw [List.length_set, List.length_set]; exact hzi
     clear c1 c2 c3 f1 f2 f3 HK3 HL2 HL3 HS2
     generalize ((W2.setCell ⟨g, d, none⟩ (.int .i64 zs[k])).setCell ⟨g, k, none⟩ (.int .i64 zs[d])).drew = W5 at *
     go_wp2_with fail
     go_roundw
     case rel => exact ⟨j + 1, _, by have := HD.out; go_num, by have := HD.out; omega, hl9, HP3, HO4, HL4, HS4⟩
     case measure => have := HD.out; simp [intOf] <;> omega
    ·have HF := Lib.hid (HPP.out (.slice va i vc) zs wr hzi P.out O.out (HL.out.more (by omega)) HS.out)
     clear P O HL HS
     go_wp2_with fail
     go_ret
     exact HF.out
open Go.RowKit
set_option maxHeartbeats 2000000 in
set_option maxRecDepth 100000 in
theorem equal_Id (H : Frz) (A : Option Addr) (cap : Nat) (A2 : Option Addr) (cap2 : Nat) (ds : List IdD) (w : World) (hH : H.In w) (hR : Rw H A 2 fId ds) (hR2 : Rw H A2 2 fId ds) (hl : ds.length ≤ 1000000) :
  Calls Tryz.prog 64 #[.slice A ds.length cap, .slice A2 ds.length cap2] w fun e w' => e = .returned (.bool true) ∧ Below w.heap.size w w' := by
 have HR := Lib.hid hR
 have HR2 := Lib.hid hR2
 have HIN := Lib.hid hH
 have k0 : ((ds.length : Int) != (ds.length : Int)) = false := by simp
 clear hR hR2 hH
 go_enter Tryz.func64, Tryz.ntmps64
 go_wp2_with fail
 clear k0
 go_loopw [5, 13] (fun _ t wr => ∃ i : Nat, i ≤ ds.length ∧ t = .int .i64 i ∧ Hid (Below w.heap.size w wr)) (fun _ t _ => ds.length - (intOf t).toNat)
 case atStart => exact ⟨0, by omega, rfl, Below.refl _ _⟩
 case round =>
  obtain ⟨i, hi, rfl, hb⟩ := hrel
  by_cases hlt : i < ds.length
  ·obtain ⟨b, off, rfl, hbl, hc⟩ := HR.out.at_ (HIN.out.below hb.out) hlt (by omega)
   obtain ⟨b2, off2, rfl, hbl2, hd⟩ := HR2.out.at_ (HIN.out.below hb.out) hlt (by omega)
   have c0 : wr.cell? ⟨b, off + i * 2, none⟩ = some (.int .i64 ds[i].kind) := hc 0 (by omega)
   have c1 : wr.cell? ⟨b, off + i * 2 + 1, none⟩ = some (.string ds[i].text) := hc 1 (by omega)
   have d0 : wr.cell? ⟨b2, off2 + i * 2, none⟩ = some (.int .i64 ds[i].kind) := hd 0 (by omega)
   have d1 : wr.cell? ⟨b2, off2 + i * 2 + 1, none⟩ = some (.string ds[i].text) := hd 1 (by omega)
   clear hc hd
   generalize ds[i] = y at *
   go_wp2_with fail
   go_quiet (fail)
   have HB1 := Lib.hid (fun n => (⟨hb.out.os, hb.out.tape, hb.out.output, hb.out.size, hb.out.block⟩ : Below w.heap.size w (wr.drewN n)))
   go_wp2_with fail
   go_roundw
   case rel => exact ⟨i + 1, by omega, by go_num, Lib.hid (HB1.out _)⟩
   case measure => simp [intOf]; omega
  ·have hie : i = ds.length := by omega
   subst hie
   go_wp2_with fail
   go_ret
   exact ⟨rfl, hb.out⟩
set_option maxHeartbeats 2000000 in
set_option maxRecDepth 100000 in
theorem samePerson_any (H : Frz) (p q : PerD) (w : World) (hH : H.In w) (hs : sayP p = sayP q) (hp1 : Rw H p.na 1 fI p.nos) (hp2 : Rw H p.ia 2 fId p.ids) (hq1 : Rw H q.na 1 fI q.nos) (hq2 : Rw H q.ia 2 fId q.ids) (l1 : p.nos.length ≤ 1000000) (l2 : p.ids.length ≤ 1000000) :
  Calls Tryz.prog 52 #[.agg #[.int .i64 p.key.kind, .string p.key.text, .slice p.na p.nos.length p.nc, .slice p.ia p.ids.length p.ic], .agg #[.int .i64 q.key.kind, .string q.key.text, .slice q.na q.nos.length q.nc, .slice q.ia q.ids.length q.ic]] w fun e w' => e = .returned (.bool true) ∧ Below w.heap.size w w' := by
 obtain ⟨key, na, nc, nos, ia, ic, ids⟩ := p
 obtain ⟨key2, na2, nc2, nos2, ia2, ic2, ids2⟩ := q
 have e1 : key = key2 := congrArg (fun x => x.1) hs
 have e2 : nos = nos2 := congrArg (fun x => x.2.1) hs
 have e3 : ids = ids2 := congrArg (fun x => x.2.2) hs
 subst e1 e2 e3
 dsimp only at *
 have HE1 := Lib.hid (fun W hW => equal_I H na nc nos na2 nc2 nos W hW hp1 hq1 l1 l1)
 have HE2 := Lib.hid (fun W hW => equal_Id H ia ic ia2 ic2 ids W hW hp2 hq2 l2)
 rw [show decide (nos = nos) = true from by simp] at HE1
 have hb1 := new1 (w := w) (.cells #[.int .i64 key.kind, .string key.text, .slice na nos.length nc, .slice ia ids.length ic] 64)
 have hb2 := new1 (w := w.alloc (.cells #[.int .i64 key.kind, .string key.text, .slice na nos.length nc, .slice ia ids.length ic] 64)) (.cells #[.int .i64 key.kind, .string key.text, .slice na2 nos.length nc2, .slice ia2 ids.length ic2] 64)
 have h2 : ((w.alloc (.cells #[.int .i64 key.kind, .string key.text, .slice na nos.length nc, .slice ia ids.length ic] 64)).alloc (.cells #[.int .i64 key.kind, .string key.text, .slice na2 nos.length nc2, .slice ia2 ids.length ic2] 64)).heap[w.heap.size + 1]? = some (.cells #[.int .i64 key.kind, .string key.text, .slice na2 nos.length nc2, .slice ia2 ids.length ic2] 64 (0, 0)) := heap_at (by simp)
 have h1 := (hb2.block _ (lt_of_heap (heap_alloc_new w (.cells #[.int .i64 key.kind, .string key.text, .slice na nos.length nc, .slice ia ids.length ic] 64)))).trans (heap_alloc_new w (.cells #[.int .i64 key.kind, .string key.text, .slice na nos.length nc, .slice ia ids.length ic] 64))
 have HB := Lib.hid (hb1.trans (hb2.mono hb1.size))
 have HIN := Lib.hid (hH.below HB.out)
 have x0 := cell_h h1 0 (v := .int .i64 key.kind) rfl
 have x1 := cell_h h1 1 (v := .string key.text) rfl
 have x2 := cell_h h1 2 (v := .slice na nos.length nc) rfl
 have x3 := cell_h h1 3 (v := .slice ia ids.length ic) rfl
 have y0 := cell_h h2 0 (v := .int .i64 key.kind) rfl
 have y1 := cell_h h2 1 (v := .string key.text) rfl
 have y2 := cell_h h2 2 (v := .slice na2 nos.length nc2) rfl
 have y3 := cell_h h2 3 (v := .slice ia2 ids.length ic2) rfl
 clear hb1 hb2 h1 h2 hs hp1 hp2 hq1 hq2 hH
 go_enter Tryz.func52, Tryz.ntmps52
 go_upto_region 1 with (fail)
 generalize (w.alloc (.cells #[.int .i64 key.kind, .string key.text, .slice na nos.length nc, .slice ia ids.length ic] 64)).alloc (.cells #[.int .i64 key.kind, .string key.text, .slice na2 nos.length nc2, .slice ia2 ids.length ic2] 64) = W1 at *
 go_wp2_with fail
 refine (HE1.out W1 HIN.out).mono ?_
 rintro e W2 ⟨rfl, hb2⟩
 have HB2 := Lib.hid (HB.out.trans (hb2.mono HB.out.size))
 have HIN2 := Lib.hid (HIN.out.below hb2)
 have x3' := lift_cell x3 _ hb2
 have y3' := lift_cell y3 _ hb2
 clear hb2 x0 x1 x2 x3 y0 y1 y2 y3 HE1
 go_wp2_with fail
 refine (HE2.out W2 HIN2.out).mono ?_
 rintro e W3 ⟨rfl, hb3⟩
 have HB3 := Lib.hid (HB2.out.trans (hb3.mono HB2.out.size))
 clear hb3 x3' y3' HE2
 go_wp2_with fail
 go_ret
 exact ⟨rfl, HB3.out⟩
set_option maxHeartbeats 4000000 in
set_option maxRecDepth 100000 in
theorem samePersons_any (H : Frz) (A B : Option Addr) (ca cb : Nat) (ps qs : List PerD) (w : World) (hH : H.In w) (hs : ps.map sayP = qs.map sayP) (hA : PerIn H A ps) (hB : PerIn H B qs) (hl : ps.length ≤ 1000000) (hn : ∀ p ∈ ps, p.nos.length ≤ 1000000 ∧ p.ids.length ≤ 1000000) :
  Calls Tryz.prog 50 #[.slice A ps.length ca, .slice B qs.length cb, .func (.func 52) #[] #[]] w fun e w' => e = .returned (.bool true) ∧ Below w.heap.size w w' := by
 have hlen : qs.length = ps.length := by have := congrArg List.length hs; rw [List.length_map, List.length_map] at this; exact this.symm
 have HSY : Hid (∀ i (h1 : i < ps.length) (h2 : i < qs.length), sayP ps[i] = sayP qs[i]) := fun i h1 h2 => by
  have h := congrArg (fun l => l[i]?) hs
  simp only [List.getElem?_map, List.getElem?_eq_getElem h1, List.getElem?_eq_getElem h2, Option.map_some] at h
  exact Option.some.inj h
 have HSP := Lib.hid (fun i (h1 : i < ps.length) (h2 : i < qs.length) W (hW : H.In W) => samePerson_any H ps[i] qs[i] W hW (HSY.out i h1 h2) (hA.2 _ (List.getElem_mem h1)).1 (hA.2 _ (List.getElem_mem h1)).2 (hB.2 _ (List.getElem_mem h2)).1 (hB.2 _ (List.getElem_mem h2)).2 (hn _ (List.getElem_mem h1)).1 (hn _ (List.getElem_mem h1)).2)
 have HA := Lib.hid hA.1
 have HB := Lib.hid hB.1
 have HH := Lib.hid hH
 have k0 : ((ps.length : Int) != (ps.length : Int)) = false := by simp
 have HL := Lib.hid hlen
 rw [hlen]
 clear hs hA hB hn hH hlen HSY
 go_enter Tryz.func50, Tryz.ntmps50
 go_wp2_with fail
 clear k0
 go_loopw [17] (fun t wr => ∃ i : Nat, i ≤ ps.length ∧ t = .int .i64 i ∧ Hid (Below w.heap.size w wr)) (fun t _ => ps.length - (intOf t).toNat)
 case atStart => exact ⟨0, by omega, rfl, Below.refl _ _⟩
 case round =>
  obtain ⟨i, hi, rfl, hb⟩ := hrel
  by_cases hlt : i < ps.length
  ·have hlt2 : i < qs.length := by rw [HL.out]; exact hlt
   obtain ⟨b, off, hAA, hbl, hc⟩ := HA.out.at_ (HH.out.below hb.out) hlt (by omega)
   obtain ⟨b2, off2, hBB, hbl2, hd⟩ := HB.out.at_ (HH.out.below hb.out) hlt2 (by omega)
   have HC := Lib.hid (HSP.out i hlt hlt2)
   have c0 : wr.cell? ⟨b, off + i * 4, none⟩ = some (.int .i64 ps[i].key.kind) := hc 0 (by omega)
   have c1 : wr.cell? ⟨b, off + i * 4 + 1, none⟩ = some (.string ps[i].key.text) := hc 1 (by omega)
   have c2 : wr.cell? ⟨b, off + i * 4 + 2, none⟩ = some (.slice ps[i].na ps[i].nos.length ps[i].nc) := hc 2 (by omega)
   have c3 : wr.cell? ⟨b, off + i * 4 + 3, none⟩ = some (.slice ps[i].ia ps[i].ids.length ps[i].ic) := hc 3 (by omega)
   have d0 : wr.cell? ⟨b2, off2 + i * 4, none⟩ = some (.int .i64 qs[i].key.kind) := hd 0 (by omega)
   have d1 : wr.cell? ⟨b2, off2 + i * 4 + 1, none⟩ = some (.string qs[i].key.text) := hd 1 (by omega)
   have d2 : wr.cell? ⟨b2, off2 + i * 4 + 2, none⟩ = some (.slice qs[i].na qs[i].nos.length qs[i].nc) := hd 2 (by omega)
   have d3 : wr.cell? ⟨b2, off2 + i * 4 + 3, none⟩ = some (.slice qs[i].ia qs[i].ids.length qs[i].ic) := hd 3 (by omega)
   subst hAA hBB
   clear hc hd
   generalize ps[i] = p at *
   generalize qs[i] = q at *
   have hb1 := new1 (w := wr) (.cells #[.int .i64 p.key.kind, .string p.key.text, .slice p.na p.nos.length p.nc, .slice p.ia p.ids.length p.ic] 64)
   have hb2 := new1 (w := wr.alloc (.cells #[.int .i64 p.key.kind, .string p.key.text, .slice p.na p.nos.length p.nc, .slice p.ia p.ids.length p.ic] 64)) (.cells #[.int .i64 q.key.kind, .string q.key.text, .slice q.na q.nos.length q.nc, .slice q.ia q.ids.length q.ic] 64)
   have h2 : ((wr.alloc (.cells #[.int .i64 p.key.kind, .string p.key.text, .slice p.na p.nos.length p.nc, .slice p.ia p.ids.length p.ic] 64)).alloc (.cells #[.int .i64 q.key.kind, .string q.key.text, .slice q.na q.nos.length q.nc, .slice q.ia q.ids.length q.ic] 64)).heap[wr.heap.size + 1]? = some (.cells #[.int .i64 q.key.kind, .string q.key.text, .slice q.na q.nos.length q.nc, .slice q.ia q.ids.length q.ic] 64 (0, 0)) := heap_at (by simp)
   have h1 := (hb2.block _ (lt_of_heap (heap_alloc_new wr (.cells #[.int .i64 p.key.kind, .string p.key.text, .slice p.na p.nos.length p.nc, .slice p.ia p.ids.length p.ic] 64)))).trans (heap_alloc_new wr (.cells #[.int .i64 p.key.kind, .string p.key.text, .slice p.na p.nos.length p.nc, .slice p.ia p.ids.length p.ic] 64))
   have e0 := lift_cell d0 _ hb1
   have e1 := lift_cell d1 _ hb1
   have e2 := lift_cell d2 _ hb1
   have e3 := lift_cell d3 _ hb1
   have HN := Lib.hid (hb.out.trans ((hb1.trans (hb2.mono hb1.size)).mono hb.out.size))
   have x0 := cell_h h1 0 (v := .int .i64 p.key.kind) rfl
   have x1 := cell_h h1 1 (v := .string p.key.text) rfl
   have x2 := cell_h h1 2 (v := .slice p.na p.nos.length p.nc) rfl
   have x3 := cell_h h1 3 (v := .slice p.ia p.ids.length p.ic) rfl
   have y0 := cell_h h2 0 (v := .int .i64 q.key.kind) rfl
   have y1 := cell_h h2 1 (v := .string q.key.text) rfl
   have y2 := cell_h h2 2 (v := .slice q.na q.nos.length q.nc) rfl
   have y3 := cell_h h2 3 (v := .slice q.ia q.ids.length q.ic) rfl
   clear hb1 hb2 h1 h2 hb
   go_upto_region 7 with (fail)
   clear c0 c1 c2 c3 d0 d1 d2 d3 e0 e1 e2 e3
   generalize (wr.alloc (.cells #[.int .i64 p.key.kind, .string p.key.text, .slice p.na p.nos.length p.nc, .slice p.ia p.ids.length p.ic] 64)).alloc (.cells #[.int .i64 q.key.kind, .string q.key.text, .slice q.na q.nos.length q.nc, .slice q.ia q.ids.length q.ic] 64) = W2 at *
   go_wp2_with fail
   refine (HC.out W2 (HH.out.below HN.out)).mono ?_
   rintro e W3 ⟨rfl, hb3⟩
   have HB3 := Lib.hid (HN.out.trans (hb3.mono HN.out.size))
   clear hb3 x0 x1 x2 x3 y0 y1 y2 y3 HC
   go_wp2_with fail
   go_roundw
   case rel => exact ⟨i + 1, by omega, by go_num, HB3⟩
   case measure => simp [intOf]; omega
  ·have hie : i = ps.length := by omega
   subst hie
   go_wp2_with fail
   go_ret
   exact ⟨rfl, hb.out⟩
open Go.RowKit
def AllTch (us : List TchD) (w : World) (e : Ending) (w' : World) : Prop := ∃ (A : Option Addr) (c : Nat) (cs : List TchD), e = .returned (.slice A us.length c) ∧ cs.map bare = us.map bare ∧ us.length ≤ c ∧ TchIn (newH w.heap.size w') A cs ∧ Below w.heap.size w w'
set_option maxHeartbeats 4000000 in
set_option maxRecDepth 100000 in
theorem allTch_any (H : Frz) (xb : Nat) (A : Option Addr) (cap : Nat) (us : List TchD) (w : World) (hH : H.In w) (hx : w.cell? ⟨xb, 4, none⟩ = some (.slice A us.length cap)) (hT : TchIn H A us) (hl : us.length ≤ 100000) (hil : ∀ u ∈ us, u.ids.length ≤ 1000000 ∧ u.fields.length ≤ 1000000) :
  Calls Tryz.prog 49 #[.pointer (some ⟨xb, 0, none⟩)] w (AllTch us w) := by
 have HCL := Lib.hid (fun W (hW : H.In W) => clone_Tch H fTch us (fun d _ m => by match m with | 0 => rfl | 1 => rfl | 2 => rfl | 3 => rfl | _ + 4 => rfl) A cap W hW hT.1 (by omega))
 have HCP := Lib.hid (fun (u : TchD) (hu : u ∈ us) W (hW : H.In W) => copyTch_any H u W hW (hT.2 u hu).1 (hT.2 u hu).2 (hil u hu).1 (hil u hu).2)
 have HH := Lib.hid hH
 have HPP : Hid (∀ (A : Option Addr) (c : Nat) (cs : List TchD) (w' : World), cs.map bare = us.map bare → us.length ≤ c → TchIn (newH w.heap.size w') A cs → Below w.heap.size w w' → AllTch us w (.returned (.slice A us.length c)) w') := fun A c cs w' h1 h2 h3 h4 => ⟨A, c, cs, rfl, h1, h2, h3, h4⟩
 clear hT hil hH
 go_enter Tryz.func49, Tryz.ntmps49
 go_wp2_with fail
 refine (HCL.out w HH.out).mono ?_
 rintro e W1 ⟨⟨v, rfl, hO⟩, hb1⟩
 obtain ⟨vA, vc, hv, hvc⟩ := hO.slice
 subst hv
 have HO1 := Lib.hid hO
 have HB1 := Lib.hid hb1
 have HW1 : Hid (w.heap.size ≤ W1.heap.size) := hb1.size
 have HOB : Hid (∀ q, (Value.slice vA us.length vc).ownBlock = some q → w.heap.size ≤ q ∧ q < W1.heap.size) := fun q hq => hO.lt hq
 clear hO hb1 hx HCL
 go_wp2_with fail
 go_loopw [13] (fun t wr => ∃ (i : Nat) (cs : List TchD), cs.length = i ∧ i ≤ us.length ∧ t = .int .i64 i ∧ Hid (cs.map bare = (us.take i).map bare) ∧ Hid (Orow wr w.heap.size 53 5 fTch (.slice vA us.length vc) (cs ++ us.drop i)) ∧ Hid (∀ u ∈ cs, Orow wr W1.heap.size 55 2 fId (.slice u.ia u.ids.length u.ic) u.ids ∧ Orow wr W1.heap.size 78 4 fFd (.slice u.fa u.fields.length u.fc) u.fields) ∧ Hid (Below w.heap.size w wr) ∧ Hid (W1.heap.size ≤ wr.heap.size)) (fun t _ => us.length - (intOf t).toNat)
 case atStart => exact ⟨0, [], rfl, by omega, rfl, rfl, HO1, (fun u hu => absurd hu (by simp)), HB1, Nat.le_refl _⟩
 case round =>
  obtain ⟨i, cs, hci, hi, rfl, HS, HO, HR, HB, HZ⟩ := hrel
  clear HO1 HB1
  by_cases hlt : i < us.length
  ·have hdr : us.drop i = us[i] :: us.drop (i + 1) := List.drop_eq_getElem_cons hlt
   have hlen : (cs ++ us.drop i).length = us.length := by rw [List.length_append, List.length_drop, hci]; omega
   obtain ⟨g, c9, rest, hv, hle, hBg, hgq, hm, hk, hr⟩ := HO.out.form (by intro e; rw [e] at hlen; simp at hlen; omega)
   rw [hlen] at hv hle hr
   cases hv
   have hix : i < (cs ++ us.drop i).length := by rw [hlen]; exact hlt
   have hge : (cs ++ us.drop i)[i] = us[i] := by
    simp only [hdr]
    rw [List.getElem_append_right (by omega)]
    simp [hci]
   have HCU := Lib.hid (HCP.out us[i] (List.getElem_mem hlt))
   have hk2 := hk
   have cc : ∀ j, j < 5 → wr.cell? ⟨g, i * 5 + j, none⟩ = some (fTch us[i] j) := fun j hj => by
    have h := hk.cell i j hix hj
    rw [hge] at h
    exact h
   have hsay : ((us.take (i + 1)).map bare) = (us.take i).map bare ++ [bare us[i]] := by rw [List.take_succ_eq_append_getElem hlt, List.map_append]; rfl
   have HSY := Lib.hid hsay
   have HSET : Hid (∀ x, (cs ++ us.drop i).set i x = cs ++ [x] ++ us.drop (i + 1)) := fun x => by
    rw [hdr, List.set_append_right _ _ (by omega), hci, Nat.sub_self, List.set_cons_zero, List.append_assoc]
    rfl
   have HKB := Lib.hid hk
   have HRL : Hid (vc ≤ maxLen ∧ us.length ≤ vc ∧ rest.length = vc * 5 - us.length * 5 ∧ w.heap.size ≤ g ∧ (cs ++ us.drop i).length = us.length) := ⟨hm, hle, hr, hBg, hlen⟩
   have hg1 : g < W1.heap.size := (HOB.out g rfl).2
   have HG1 := Lib.hid hg1
   generalize us[i] = u at *
   have c0 : wr.cell? ⟨g, i * 5, none⟩ = some (.int .i64 u.no) := cc 0 (by omega)
   have c1 : wr.cell? ⟨g, i * 5 + 1, none⟩ = some (.int .i64 u.at_) := cc 1 (by omega)
   have c2 : wr.cell? ⟨g, i * 5 + 2, none⟩ = some (.string u.source) := cc 2 (by omega)
   have c3 : wr.cell? ⟨g, i * 5 + 3, none⟩ = some (.slice u.ia u.ids.length u.ic) := cc 3 (by omega)
   have c4 : wr.cell? ⟨g, i * 5 + 4, none⟩ = some (.slice u.fa u.fields.length u.fc) := cc 4 (by omega)
   have hn1 := new1 (w := wr) (.cells #[.int .i64 u.no, .int .i64 u.at_, .string u.source, .slice u.ia u.ids.length u.ic, .slice u.fa u.fields.length u.fc] 53)
   have z0 : (wr.alloc (.cells #[.int .i64 u.no, .int .i64 u.at_, .string u.source, .slice u.ia u.ids.length u.ic, .slice u.fa u.fields.length u.fc] 53)).cell? ⟨wr.heap.size, 0, none⟩ = some (.int .i64 u.no) := newc 0 rfl
   have z1 : (wr.alloc (.cells #[.int .i64 u.no, .int .i64 u.at_, .string u.source, .slice u.ia u.ids.length u.ic, .slice u.fa u.fields.length u.fc] 53)).cell? ⟨wr.heap.size, 1, none⟩ = some (.int .i64 u.at_) := newc 1 rfl
   have z2 : (wr.alloc (.cells #[.int .i64 u.no, .int .i64 u.at_, .string u.source, .slice u.ia u.ids.length u.ic, .slice u.fa u.fields.length u.fc] 53)).cell? ⟨wr.heap.size, 2, none⟩ = some (.string u.source) := newc 2 rfl
   have z3 : (wr.alloc (.cells #[.int .i64 u.no, .int .i64 u.at_, .string u.source, .slice u.ia u.ids.length u.ic, .slice u.fa u.fields.length u.fc] 53)).cell? ⟨wr.heap.size, 3, none⟩ = some (.slice u.ia u.ids.length u.ic) := newc 3 rfl
   have z4 : (wr.alloc (.cells #[.int .i64 u.no, .int .i64 u.at_, .string u.source, .slice u.ia u.ids.length u.ic, .slice u.fa u.fields.length u.fc] 53)).cell? ⟨wr.heap.size, 4, none⟩ = some (.slice u.fa u.fields.length u.fc) := newc 4 rfl
   have HKB2 := Lib.hid (HKB.out.keep hn1)
   have HN := Lib.hid hn1
   clear cc hk hk2 hdr hlen hix hge hsay hn1 hm hle hr hBg hgq hg1
   go_upto_region 5 with (fail)
   clear c0 c1 c2 c3 c4
   generalize wr.alloc (.cells #[.int .i64 u.no, .int .i64 u.at_, .string u.source, .slice u.ia u.ids.length u.ic, .slice u.fa u.fields.length u.fc] 53) = W2 at *
   have HIN2 := Lib.hid (HH.out.below (HB.out.trans (HN.out.mono HB.out.size)))
   go_wp2_with fail
   refine (HCU.out W2 HIN2.out).mono ?_
   rintro e W3 ⟨va, vb, rfl, oa, ob, hb3⟩
   obtain ⟨aA, aC, ha, -⟩ := oa.slice
   obtain ⟨bA, bC, hb, -⟩ := ob.slice
   subst ha hb
   obtain ⟨u', hu'⟩ : ∃ u' : TchD, u' = { u with ia := aA, ic := aC, fa := bA, fc := bC } := ⟨_, rfl⟩
   have hsu : bare u' = bare u := by rw [hu']; rfl
   have hK3 := HKB2.out.keep hb3
   have hput := hK3.put i (by rw [HRL.out.2.2.2.2]; exact hlt) u'
   rw [HSET.out u'] at hput
   have hth : W3.there g (i * 5) 5 := fun j hj => ⟨by rw [hK3.cell i j (by rw [HRL.out.2.2.2.2]; exact hlt) hj]; rfl, hK3.frozen _⟩
   have HTH := Lib.hid hth
   have hgr : W3.grownBy (W3.setCells g (i * 5) #[.int .i64 u.no, .int .i64 u.at_, .string u.source, .slice aA u.ids.length aC, .slice bA u.fields.length bC].toList) (some g) := (grown_setC (grown_setC (grown_setC (grown_setC (grown_setC (World.grownBy.refl _ _) _ _) _ _) _ _) _ _) _ _)
   have hB3 : Below w.heap.size w W3 := HB.out.trans ((HN.out.trans (hb3.mono HN.out.size)).mono HB.out.size)
   have hb23 : Below wr.heap.size wr W3 := HN.out.trans (hb3.mono HN.out.size)
   have hZ2 : W1.heap.size ≤ W2.heap.size := Nat.le_trans HZ.out HN.out.size
   have HBX := Lib.hid (Below.mk9 hB3 hgr (fun q e => by injection e with e; have := HRL.out.2.2.2.1; omega))
   have hou : Orow W3 W1.heap.size 55 2 fId (.slice u'.ia u'.ids.length u'.ic) u'.ids ∧ Orow W3 W1.heap.size 78 4 fFd (.slice u'.fa u'.fields.length u'.fc) u'.fields := by
    rw [hu']
    exact ⟨oa.mono hZ2, ob.mono hZ2⟩
   have HRX : Hid (∀ y ∈ cs ++ [u'], Orow (W3.setCells g (i * 5) #[.int .i64 u.no, .int .i64 u.at_, .string u.source, .slice aA u.ids.length aC, .slice bA u.fields.length bC].toList) W1.heap.size 55 2 fId (.slice y.ia y.ids.length y.ic) y.ids ∧ Orow (W3.setCells g (i * 5) #[.int .i64 u.no, .int .i64 u.at_, .string u.source, .slice aA u.ids.length aC, .slice bA u.fields.length bC].toList) W1.heap.size 78 4 fFd (.slice y.fa y.fields.length y.fc) y.fields) := fun y hy => by
    rcases List.mem_append.1 hy with hy | hy
    ·have h := HR.out y hy
     exact ⟨(h.1.below hb23).far hgr HG1.out, (h.2.below hb23).far hgr HG1.out⟩
    ·have e : y = u' := by simpa using hy
     subst e
     exact ⟨hou.1.far hgr HG1.out, hou.2.far hgr HG1.out⟩
   have HOX : Hid (Orow (W3.setCells g (i * 5) #[.int .i64 u.no, .int .i64 u.at_, .string u.source, .slice aA u.ids.length aC, .slice bA u.fields.length bC].toList) w.heap.size 53 5 fTch (.slice (some ⟨g, 0, none⟩) us.length vc) (cs ++ [u'] ++ us.drop (i + 1))) := by
    have hl9 : (cs ++ [u'] ++ us.drop (i + 1)).length = us.length := by
     rw [← HSET.out u', List.length_set]
     exact HRL.out.2.2.2.2
    have hp : KBlk (W3.setCells g (i * 5) #[.int .i64 u.no, .int .i64 u.at_, .string u.source, .slice aA u.ids.length aC, .slice bA u.fields.length bC].toList) g 53 5 fTch (cs ++ [u'] ++ us.drop (i + 1)) rest := by
     rw [hu'] at hput ⊢
     exact hput
    have h := Orow.of_blk hp HRL.out.2.2.2.1 HRL.out.1 (by rw [hl9]; exact HRL.out.2.1) (by rw [hl9]; exact HRL.out.2.2.1)
    rw [hl9] at h
    exact h
   have HSX : Hid ((cs ++ [u']).map bare = (us.take (i + 1)).map bare) := by
    show _ = _
    rw [List.map_append, HSY.out, HS.out]
    simp [hsu]
   have HZX : Hid (W1.heap.size ≤ (W3.setCells g (i * 5) #[.int .i64 u.no, .int .i64 u.at_, .string u.source, .slice aA u.ids.length aC, .slice bA u.fields.length bC].toList).heap.size) := Nat.le_trans hZ2 (Nat.le_trans hb3.size hgr.size)
   have hxi : (i : Int) < us.length := by omega
   clear hput hth hgr hB3 hb23 hZ2 hou oa ob hb3 hK3 hsu HKB HKB2 HRL HSET HSY HS HO HR HB HZ HCU HN HIN2 z0 z1 z2 z3 z4
   go_wp2_with (refine wpList_store_mid rfl 53 _ _ rfl g (i * 5) #[.int .i64 u.no, .int .i64 u.at_, .string u.source, .slice aA u.ids.length aC, .slice bA u.fields.length bC] rfl rfl HTH.out (by kernel_rfl) (by simp [Value.oneCell']) ?_; generalize W3.setCells g (i * 5) #[.int .i64 u.no, .int .i64 u.at_, .string u.source, .slice aA u.ids.length aC, .slice bA u.fields.length bC].toList = W9 at HBX HRX HOX HZX ⊢)
   go_roundw
   case rel => exact ⟨i + 1, cs ++ [u'], by simp [hci], by omega, by go_num, HSX, HOX, HRX, HBX, HZX⟩
   case measure => simp [intOf]; omega
  ·have hie : i = us.length := by omega
   subst hie
   have hO := HO.out
   rw [List.drop_length, List.append_nil] at hO
   have hcl : cs.length = us.length := hci
   obtain ⟨A9, c9, e9, hc9, hR9⟩ := hO.memN (Nat.le_refl _)
   rw [hcl] at e9
   cases e9
   have hS := HS.out
   rw [List.take_length] at hS
   have HF := Lib.hid (HPP.out vA vc cs wr hS hvc ⟨hR9, fun y hy => by
    obtain ⟨h1, h2⟩ := HR.out y hy
    obtain ⟨a1, c1, e1, -, r1⟩ := h1.memN (n := w.heap.size) HW1.out
    obtain ⟨a2, c2, e2, -, r2⟩ := h2.memN (n := w.heap.size) HW1.out
    cases e1
    cases e2
    exact ⟨r1, r2⟩⟩ HB.out)
   clear hO hR9 hS HS HO HR HB
   go_wp2_with fail
   exact bodyPost_ret (by kernel_rfl) rfl HF.out
open Go.RowKit
theorem infoPerC : (Tryz.prog.info? 64).map (fun i => (i.zero, i.size, i.bytes)) = some (some (.agg #[.int .i64 0, .string ⟨#[]⟩, .slice none 0 0, .slice none 0 0]), 4, 72) := by kernel_rfl
section
variable {D : Type}
set_option maxHeartbeats 1000000 in
set_option maxRecDepth 100000 in
theorem clone_Per (H : Frz) (f : D → Nat → Value) (ds : List D) (hf : ∀ d ∈ ds, ∀ m, (f d m).oneCell' = true) (A : Option Addr) (cap : Nat) (w : World) (hH : H.In w) (hR : Rw H A 4 f ds) (hl : ds.length ≤ 1000000) :
  Calls Tryz.prog 125 #[.slice A ds.length cap] w fun e w' => (∃ v, e = .returned v ∧ Orow w' w.heap.size 64 4 f v ds) ∧ Below w.heap.size w w' := by
 obtain ⟨i0, hi0, hz0, hz1, hz2⟩ := info_parts infoPerC
 cases A with
 | none =>
  have hd : ds = [] := by
   cases ds with
   | nil => rfl
   | cons d ds => obtain ⟨b, off, e, _⟩ := hR 0 (by simp); cases e
  subst hd
  have hn := fun wx => Lib.run_eql_slice_nil (P := Tryz.prog) wx 49 64 none 0 cap 0 0 Tryz.underlying49
  clear hR hH hf
  go_enter Tryz.func125, Tryz.ntmps125
  go_wp2_with fail
  go_ret
  exact ⟨⟨_, rfl, Orow.nil _ _ _ _ _⟩, Below.refl _ _⟩
 | some ad =>
  have hnews : Hid (∀ j u, (cellsOf 4 f ds)[j]? = some u → w.cell? (ad.add j) = some u) := by
   intro j u hu
   have hj : j < ds.length * 4 := by have := (List.getElem?_eq_some_iff.1 hu).1; rwa [cellsOf_len] at this
   obtain ⟨b, off, e, _, hc⟩ := hR.at_ hH (i := j / 4) (by omega) (by omega)
   injection e with e
   subst e
   have h2 := hc (j % 4) (Nat.mod_lt _ (by omega))
   have h3 := cellsOf_get 4 f ds (j / 4) (j % 4) (by omega) (Nat.mod_lt _ (by omega))
   have e1 : j / 4 * 4 + j % 4 = j := by omega
   rw [e1, hu] at h3
   rw [Addr.add_lit, show off + j = off + j / 4 * 4 + j % 4 from by omega, h2]
   exact h3.symm
  have hone : Hid (∀ u ∈ cellsOf 4 f ds, u.oneCell' = true) := by
   intro u hu
   simp only [cellsOf, List.mem_flatMap, List.mem_map] at hu
   obtain ⟨d, hd, m, _, rfl⟩ := hu
   exact hf d hd m
  have hlen := Lib.hid (cellsOf_len 4 f ds)
  have hn := fun wx => Lib.run_eql_slice_nil (P := Tryz.prog) wx 49 64 (some ad) ds.length cap 0 0 Tryz.underlying49
  have hown : Hid ((w.alloc (.cells #[] 64)).ownsRow w.heap.size 64 4 (.slice (some ⟨w.heap.size, 0, none⟩) 0 0) 0 []) := ⟨rfl, Or.inr ⟨w.heap.size, 0, #[], rfl, Nat.le_refl _, heap_at rfl, Nat.le_refl _, Nat.zero_le _, rfl, rfl⟩⟩
  have hnews2 : Hid (∀ j u, (cellsOf 4 f ds)[j]? = some u → (w.alloc (.cells #[] 64)).cell? (ad.add j) = some u) := fun j u hu => by
   have := hnews.out j u hu
   exact (World.cell?_alloc_lt w _ _ (World.block_lt_of_cell? w _ this)).trans this
  clear hR hH hf hnews
  go_enter Tryz.func125, Tryz.ntmps125
  go_wp2_with (at_builtin; refine wpList_append_own _ rfl _ _ 49 rfl w.heap.size 64 i0 (.agg #[.int .i64 0, .string ⟨#[]⟩, .slice none 0 0, .slice none 0 0]) 4 72 Tryz.underlying49 hi0 hz0 hz1 hz2 rfl (by decide) (.slice (some ⟨w.heap.size, 0, none⟩) 0 0) 0 [] rfl hown.out ad ds.length cap (cellsOf 4 f ds) rfl hlen.out hnews2.out hone.out (by simp only [maxLen]; omega) (by omega) (by simp) ?_; intro v1 w2 o1 g1 b1)
  have O1 : Hid (Orow w2 w.heap.size 64 4 f v1 ds) := by
   show World.ownsRow _ _ _ _ _ _ _
   simpa using o1
  have B1 : Hid (Below w.heap.size w w2) := ((Below.refl _ w).alloc (Nat.le_refl _) _).grown g1 (by simp) (fun q hq => by simp [Value.ownBlock] at hq; omega)
  clear o1 g1 b1
  go_wp2_with fail
  go_ret
  exact ⟨⟨_, rfl, O1.out⟩, B1.out⟩
end
open Go.RowKit
def φCpPer (tb B0 : Nat) (t : PerD) (i : Nat) (v : Value) (W : World) : Prop :=
 match i with
 | 0 => v = .pointer (some ⟨tb, 2, none⟩)
 | 1 => v = .slice t.na t.nos.length t.nc
 | 2 => Orow W B0 3 1 fI v t.nos
 | 3 => v = .pointer (some ⟨tb, 3, none⟩)
 | 4 => v = .slice t.ia t.ids.length t.ic
 | 5 => Orow W B0 55 2 fId v t.ids
 | 6 => v = .pointer (some ⟨tb, 2, none⟩)
 | _ => True
theorem φCpPer_mono {tb B0 : Nat} (hb : tb < B0) {t : PerD} (i : Nat) (v : Value) (W W' : World) (_ : i < 8) (he : W.grownBy W' (some tb)) (h : φCpPer tb B0 t i v W) : φCpPer tb B0 t i v W' := by
 match i, h with
 | 0, h => exact h
 | 1, h => exact h
 | 2, h => exact Orow.far h he hb
 | 3, h => exact h
 | 4, h => exact h
 | 5, h => exact Orow.far h he hb
 | 6, h => exact h
 | _ + 7, h => trivial
def CopyPer (t : PerD) (w : World) (e : Ending) (w' : World) : Prop := ∃ (va vb : Value), e = .returned (.agg #[.int .i64 t.key.kind, .string t.key.text, va, vb]) ∧ Orow w' w.heap.size 3 1 fI va t.nos ∧ Orow w' w.heap.size 55 2 fId vb t.ids ∧ Below w.heap.size w w'
set_option maxHeartbeats 4000000 in
set_option maxRecDepth 100000 in
theorem copyPer_any (H : Frz) (t : PerD) (w : World) (hH : H.In w) (hA : Rw H t.na 1 fI t.nos) (hB : Rw H t.ia 2 fId t.ids) (la : t.nos.length ≤ 1000000) (lb : t.ids.length ≤ 1000000) :
  Calls Tryz.prog 126 #[.agg #[.int .i64 t.key.kind, .string t.key.text, .slice t.na t.nos.length t.nc, .slice t.ia t.ids.length t.ic]] w (CopyPer t w) := by
 have hb1 := new1 (w := w) (.cells #[.int .i64 t.key.kind, .string t.key.text, .slice t.na t.nos.length t.nc, .slice t.ia t.ids.length t.ic] 64)
 have hb2 := new1 (w := w.alloc (.cells #[.int .i64 t.key.kind, .string t.key.text, .slice t.na t.nos.length t.nc, .slice t.ia t.ids.length t.ic] 64)) (.cells #[.int .i64 0, .string ⟨#[]⟩, .slice none 0 0, .slice none 0 0] 64)
 have HZ : Hid (((w.alloc (.cells #[.int .i64 t.key.kind, .string t.key.text, .slice t.na t.nos.length t.nc, .slice t.ia t.ids.length t.ic] 64)).alloc (.cells #[.int .i64 0, .string ⟨#[]⟩, .slice none 0 0, .slice none 0 0] 64)).heap[w.heap.size + 1]? = some (.cells #[.int .i64 0, .string ⟨#[]⟩, .slice none 0 0, .slice none 0 0] 64 (0, 0))) := heap_at (by simp)
 have HT : Hid (((w.alloc (.cells #[.int .i64 t.key.kind, .string t.key.text, .slice t.na t.nos.length t.nc, .slice t.ia t.ids.length t.ic] 64)).alloc (.cells #[.int .i64 0, .string ⟨#[]⟩, .slice none 0 0, .slice none 0 0] 64)).heap[w.heap.size]? = some (.cells #[.int .i64 t.key.kind, .string t.key.text, .slice t.na t.nos.length t.nc, .slice t.ia t.ids.length t.ic] 64 (0, 0))) := (hb2.block _ (lt_of_heap (heap_alloc_new w (.cells #[.int .i64 t.key.kind, .string t.key.text, .slice t.na t.nos.length t.nc, .slice t.ia t.ids.length t.ic] 64)))).trans (heap_alloc_new w (.cells #[.int .i64 t.key.kind, .string t.key.text, .slice t.na t.nos.length t.nc, .slice t.ia t.ids.length t.ic] 64))
 have HBN := Lib.hid (hb1.trans (hb2.mono hb1.size))
 have HIN := Lib.hid (hH.below HBN.out)
 have HCA := Lib.hid (fun W (hW : H.In W) => clone_Int H fI t.nos (fun d _ m => rfl) t.na t.nc W hW hA la)
 have HCB := Lib.hid (fun W (hW : H.In W) => clone_Id H fId t.ids (fun d _ m => by match m with | 0 => rfl | _ + 1 => rfl) t.ia t.ic W hW hB lb)
 have HHW : Hid (∀ b o, H b = some o → b < w.heap.size) := fun b o e => hH.lt e
 have HEN : Hid (∀ (va vb : Value) (w' : World), Orow w' w.heap.size 3 1 fI va t.nos → Orow w' w.heap.size 55 2 fId vb t.ids → Below w.heap.size w w' → CopyPer t w (.returned (.agg #[.int .i64 t.key.kind, .string t.key.text, va, vb])) w') := fun va vb w' h1 h2 h3 => ⟨va, vb, rfl, h1, h2, h3⟩
 clear hb1 hb2 hH hA hB
 go_enter Tryz.func126, Tryz.ntmps126
 go_upto_region 1 with (fail)
 generalize (w.alloc (.cells #[.int .i64 t.key.kind, .string t.key.text, .slice t.na t.nos.length t.nc, .slice t.ia t.ids.length t.ic] 64)).alloc (.cells #[.int .i64 0, .string ⟨#[]⟩, .slice none 0 0, .slice none 0 0] 64) = W1 at *
 obtain ⟨tb, htb⟩ : ∃ tb, tb = w.heap.size := ⟨_, rfl⟩
 rw [← htb] at HZ HT ⊢
 have HTB : Hid (tb < W1.heap.size ∧ tb + 1 < W1.heap.size ∧ w.heap.size ≤ tb ∧ tb = w.heap.size) := ⟨lt_of_heap HT.out, lt_of_heap HZ.out, by omega, htb⟩
 have HNO : Hid (H tb = none) := by
  cases e : H tb with
  | none => rfl
  | some o => have := HHW.out tb o e; omega
 clear htb
 refine wp_region_concV 8 12 (φCpPer tb W1.heap.size t) (fun L _ W => CpJ W1 tb 64 (fun X => #[.int .i64 t.key.kind, .string t.key.text, X, .slice t.ia t.ids.length t.ic]) (.slice t.na t.nos.length t.nc) (fun X W => Orow W W1.heap.size 3 1 fI X t.nos) L W) (fun a b => a.grownBy b (some tb)) (by kernel_rfl) (by kernel_rfl) (by rfl) (CpJ.start HT.out _) (φCpPer_mono HTB.out.1) (fun i x w hi e h => ?_) ?_ ?_
 ·have hcs : i = 7 := by
   have : i = 0 ∨ i = 1 ∨ i = 2 ∨ i = 3 ∨ i = 4 ∨ i = 5 ∨ i = 6 ∨ i = 7 := by omega
   rcases this with rfl | rfl | rfl | rfl | rfl | rfl | rfl | rfl <;> first | rfl | exact absurd e (by decide)
  subst hcs
  trivial
 ·intro n o hn ho a W2 L hr hsN hLs hJ hkn
  replace hsN : a.tmps.size = 12 := hsN
  have hcs : n = 0 ∨ n = 1 ∨ n = 2 ∨ n = 3 ∨ n = 4 ∨ n = 5 ∨ n = 6 ∨ n = 7 := by omega
  have hin : H.In W2 := HIN.out.grown hJ.gr HNO.out
  have hGm : ∀ (W' : World) X, Below W2.heap.size W2 W' → Orow W2 W1.heap.size 3 1 fI X t.nos → Orow W' W1.heap.size 3 1 fI X t.nos := fun W' X hb o => o.below hb
  have gB : ∀ W', Below W2.heap.size W2 W' → W2.grownBy W' (some tb) := fun W' hb => ⟨hb.os, hb.tape, hb.output, hb.size, fun k hk _ => hb.block k hk⟩
  have hsz := hJ.gr.size
  rcases hcs with rfl | rfl | rfl | rfl | rfl | rfl | rfl | rfl
  ·obtain rfl := Option.some.inj ho
   have h1 := slotA_of (hkn 1 (by decide) : a.tmps.getD 1 undef = .pointer (some ⟨tb, 0, none⟩))
   clear hkn ho
   simp only [OpV, execOp]
   simp [go_sem, h1]
   exact ⟨rfl, hJ.step (hGm _) (Below.refl _ _) (by decide) (fun c => absurd c (by decide)), gB _ (Below.refl _ _)⟩
  ·obtain rfl := Option.some.inj ho
   have h1 := slotA_of (hkn 3 (by decide) : a.tmps.getD 3 undef = .pointer (some ⟨tb, 2, none⟩))
   have c3 := cell_h (hJ.old_ (mem_ready.1 hr).1) 2 (v := .slice t.na t.nos.length t.nc) rfl
   clear hkn ho
   simp only [OpV, execOp]
   simp [go_sem, h1, c3]
   exact ⟨rfl, hJ.step (hGm _) (Below.refl _ _) (by decide) (fun c => absurd c (by decide)), gB _ (Below.refl _ _)⟩
  ·obtain rfl := Option.some.inj ho
   have hdep : L.getD 1 false = true := by
    obtain ⟨_, o', ho', hall⟩ := mem_ready.1 hr
    obtain rfl := Option.some.inj ho'
    exact hall { on := 1, ground := Ground.data } (by simp) rfl
   have h1 := slotA_of (hkn 4 (by decide) : a.tmps.getD 4 undef = .slice t.na t.nos.length t.nc)
   clear hkn ho
   simp only [OpV, execOp]
   simp [go_sem, h1]
   exact (HCA.out W2 hin).mono fun e w'' ⟨⟨v, he, ho⟩, hb⟩ => ⟨v, he, Orow.mono ho hsz, hJ.step (hGm _) hb (by decide) (fun _ => hdep), gB _ hb⟩
  ·obtain rfl := Option.some.inj ho
   have h1 := slotA_of (hkn 1 (by decide) : a.tmps.getD 1 undef = .pointer (some ⟨tb, 0, none⟩))
   clear hkn ho
   simp only [OpV, execOp]
   simp [go_sem, h1]
   exact ⟨rfl, hJ.step (hGm _) (Below.refl _ _) (by decide) (fun c => absurd c (by decide)), gB _ (Below.refl _ _)⟩
  ·obtain rfl := Option.some.inj ho
   obtain ⟨X, hX, -⟩ := hJ.c
   have h1 := slotA_of (hkn 6 (by decide) : a.tmps.getD 6 undef = .pointer (some ⟨tb, 3, none⟩))
   have c4 := cell_h hX 3 (v := .slice t.ia t.ids.length t.ic) rfl
   clear hkn ho hX
   simp only [OpV, execOp]
   simp [go_sem, h1, c4]
   exact ⟨rfl, hJ.step (hGm _) (Below.refl _ _) (by decide) (fun c => absurd c (by decide)), gB _ (Below.refl _ _)⟩
  ·obtain rfl := Option.some.inj ho
   have h1 := slotA_of (hkn 7 (by decide) : a.tmps.getD 7 undef = .slice t.ia t.ids.length t.ic)
   clear hkn ho
   simp only [OpV, execOp]
   simp [go_sem, h1]
   exact (HCB.out W2 hin).mono fun e w'' ⟨⟨v, he, ho⟩, hb⟩ => ⟨v, he, Orow.mono ho hsz, hJ.step (hGm _) hb (by decide) (fun c => absurd c (by decide)), gB _ hb⟩
  ·obtain rfl := Option.some.inj ho
   have h1 := slotA_of (hkn 1 (by decide) : a.tmps.getD 1 undef = .pointer (some ⟨tb, 0, none⟩))
   clear hkn ho
   simp only [OpV, execOp]
   simp [go_sem, h1]
   exact ⟨rfl, hJ.step (hGm _) (Below.refl _ _) (by decide) (fun c => absurd c (by decide)), gB _ (Below.refl _ _)⟩
  ·obtain rfl := Option.some.inj ho
   have hdep : L.getD 2 false = true := by
    obtain ⟨_, o', ho', hall⟩ := mem_ready.1 hr
    obtain rfl := Option.some.inj ho'
    exact hall { on := 2, ground := Ground.data } (by simp) rfl
   obtain ⟨X, hX, -⟩ := hJ.c
   have oV : Orow W2 W1.heap.size 3 1 fI (a.tmps.getD 5 undef) t.nos := hkn 5 (by decide)
   obtain ⟨A9, c9, hv9, -⟩ := oV.slice
   rw [hv9] at oV
   have h1 := slotA_of (hkn 9 (by decide) : a.tmps.getD 9 undef = .pointer (some ⟨tb, 2, none⟩))
   have h2 := slotA_of hv9
   have c3 := cell_h hX 2 (v := X) rfl
   have f3 := froz_h hX 2
   have hst : (W2.setCell ⟨tb, 2, none⟩ (.slice A9 t.nos.length c9)).heap[tb]? = some (.cells #[.int .i64 t.key.kind, .string t.key.text, (.slice A9 t.nos.length c9), .slice t.ia t.ids.length t.ic] 64 (0, 0)) := by
    simp [World.setCell, Array.getElem?_modify, hX]
   have hgr : W2.grownBy (W2.setCell ⟨tb, 2, none⟩ (.slice A9 t.nos.length c9)) (some tb) := grown_setC (World.grownBy.refl _ _) _ _
   have oV2 := Orow.far oV hgr HTB.out.1
   clear hkn ho hX hv9
   simp only [OpV, execOp]
   simp [go_sem, h1, h2, c3, f3]
   exact ⟨trivial, hJ.store hLs hdep hgr hst oV2, hgr⟩
 ·intro xv W9 L9 hL9 hJ hgt hφ
  have o2 : Orow W9 W1.heap.size 3 1 fI (xv 2) t.nos := (hφ 2 (by omega)).resolve_right (fun c => (show ¬ ((some 5 : Option Nat) = none) from nofun) c.1)
  have o5 : Orow W9 W1.heap.size 55 2 fId (xv 5) t.ids := (hφ 5 (by omega)).resolve_right (fun c => (show ¬ ((some 8 : Option Nat) = none) from nofun) c.1)
  obtain ⟨X, hX, -, hG⟩ := hJ.c
  have oX := hG (hL9 7 (by omega))
  obtain ⟨A2, c2, e2, -⟩ := o2.slice
  obtain ⟨A5, c5, e5, -⟩ := o5.slice
  obtain ⟨AX, cX, eX, -⟩ := oX.slice
  subst eX
  rw [e5] at o5
  have hzz := (hJ.gr.block (tb + 1) HTB.out.2.1 (by intro c; injection c with c; omega)).trans HZ.out
  have HOX := Lib.hid oX
  have HO5 := Lib.hid o5
  have HX := Lib.hid hX
  have HZZ := Lib.hid hzz
  have HGR := Lib.hid hJ.gr
  simp only [List.drop_succ_cons, List.drop_zero, List.take_succ_cons, List.take_zero, putAll, Nat.reduceAdd, e2, e5]
  clear e2 e5 o2 o5 oX hX hzz hφ hJ hgt hL9 hG
  generalize xv 0 = y0
  generalize xv 1 = y1
  generalize xv 3 = y3
  generalize xv 4 = y4
  generalize xv 6 = y6
  generalize xv 7 = y7
  have d3 := cell_h HX.out 3 (v := .slice t.ia t.ids.length t.ic) rfl
  have g3 := froz_h HX.out 3
  have HY : Hid ((W9.setCell ⟨tb, 3, none⟩ (.slice A5 t.ids.length c5)).heap[tb]? = some (.cells #[.int .i64 t.key.kind, .string t.key.text, (.slice AX t.nos.length cX), (.slice A5 t.ids.length c5)] 64 (0, 0))) := by
   show _ = _
   simp [World.setCell, Array.getElem?_modify, HX.out]
  have HG2 : Hid (W9.grownBy (W9.setCell ⟨tb, 3, none⟩ (.slice A5 t.ids.length c5)) (some tb)) := grown_setC (World.grownBy.refl _ _) _ _
  go_upto_region 2 with (fail)
  clear d3 g3
  generalize W9.setCell ⟨tb, 3, none⟩ (.slice A5 t.ids.length c5) = W10 at *
  have HQ := Lib.hid ((HG2.out.block (tb + 1) (lt_of_heap HZZ.out) (by intro c; injection c with c; omega)).trans HZZ.out)
  have B1 := Below.mk9 HBN.out HGR.out (fun g e => by injection e with e; have := HTB.out.2.2.1; omega)
  have B2 := Below.mk9 B1 HG2.out (fun g e => by injection e with e; have := HTB.out.2.2.1; omega)
  have OX2 := HOX.out.far HG2.out HTB.out.1
  have O52 := HO5.out.far HG2.out HTB.out.1
  have HS1 : Hid (W10.grownBy (((((W10.setCell ⟨tb + 1, 0, none⟩ (.int .i64 t.key.kind)).setCell ⟨tb + 1, 1, none⟩ (.string t.key.text)).setCell ⟨tb + 1, 2, none⟩ (.slice AX t.nos.length cX)).setCell ⟨tb + 1, 3, none⟩ (.slice A5 t.ids.length c5))) (some (tb + 1))) := (grown_setC (grown_setC (grown_setC (grown_setC (World.grownBy.refl _ _) _ _) _ _) _ _) _ _)
  have HS2 : Hid ((((((W10.setCell ⟨tb + 1, 0, none⟩ (.int .i64 t.key.kind)).setCell ⟨tb + 1, 1, none⟩ (.string t.key.text)).setCell ⟨tb + 1, 2, none⟩ (.slice AX t.nos.length cX)).setCell ⟨tb + 1, 3, none⟩ (.slice A5 t.ids.length c5))).heap[tb + 1]? = some (.cells #[.int .i64 t.key.kind, .string t.key.text, .slice AX t.nos.length cX, .slice A5 t.ids.length c5] 64 (0, 0))) := by
   show _ = _
   simp [World.setCell, Array.getElem?_modify, HQ.out]
  have B3 := Below.mk9 B2 HS1.out (fun g e => by injection e with e; have := HTB.out.2.2.1; omega)
  have HF := Lib.hid (HEN.out _ _ _ ((OX2.far HS1.out HTB.out.2.1).mono HBN.out.size) ((O52.far HS1.out HTB.out.2.1).mono HBN.out.size) B3)
  have m0 := cell_h HY.out 0 (v := (.int .i64 t.key.kind)) rfl
  have m1 := cell_h HY.out 1 (v := (.string t.key.text)) rfl
  have m2 := cell_h HY.out 2 (v := (.slice AX t.nos.length cX)) rfl
  have m3 := cell_h HY.out 3 (v := (.slice A5 t.ids.length c5)) rfl
  have q0 := cell_h HQ.out 0 (v := .int .i64 0) rfl
  have f0 := froz_h HQ.out 0
  have q1 := cell_h HQ.out 1 (v := .string ⟨#[]⟩) rfl
  have f1 := froz_h HQ.out 1
  have q2 := cell_h HQ.out 2 (v := .slice none 0 0) rfl
  have f2 := froz_h HQ.out 2
  have q3 := cell_h HQ.out 3 (v := .slice none 0 0) rfl
  have f3 := froz_h HQ.out 3
  clear B1 B2 B3 OX2 O52 HOX HO5 HX HG2 HGR HS1
  go_wp2_with fail
  exact bodyPost_ret (results_cell_row rfl _ _ (tb + 1) 64 _ (0, 0) _ rfl HS2.out Tryz.underlying64 rfl (by kernel_rfl)) rfl HF.out
open Go.RowKit
def AllPer (us : List PerD) (w : World) (e : Ending) (w' : World) : Prop := ∃ (A : Option Addr) (c : Nat) (cs : List PerD), e = .returned (.slice A us.length c) ∧ cs.map sayP = us.map sayP ∧ us.length ≤ c ∧ PerIn (newH w.heap.size w') A cs ∧ Below w.heap.size w w'
set_option maxHeartbeats 4000000 in
set_option maxRecDepth 100000 in
theorem allPer_any (H : Frz) (xb : Nat) (A : Option Addr) (cap : Nat) (us : List PerD) (w : World) (hH : H.In w) (hx : w.cell? ⟨xb, 5, none⟩ = some (.slice A us.length cap)) (hT : PerIn H A us) (hl : us.length ≤ 100000) (hil : ∀ u ∈ us, u.nos.length ≤ 1000000 ∧ u.ids.length ≤ 1000000) :
  Calls Tryz.prog 51 #[.pointer (some ⟨xb, 0, none⟩)] w (AllPer us w) := by
 have HCL := Lib.hid (fun W (hW : H.In W) => clone_Per H fPer us (fun d _ m => by match m with | 0 => rfl | 1 => rfl | 2 => rfl | _ + 3 => rfl) A cap W hW hT.1 (by omega))
 have HCP := Lib.hid (fun (u : PerD) (hu : u ∈ us) W (hW : H.In W) => copyPer_any H u W hW (hT.2 u hu).1 (hT.2 u hu).2 (hil u hu).1 (hil u hu).2)
 have HH := Lib.hid hH
 have HPP : Hid (∀ (A : Option Addr) (c : Nat) (cs : List PerD) (w' : World), cs.map sayP = us.map sayP → us.length ≤ c → PerIn (newH w.heap.size w') A cs → Below w.heap.size w w' → AllPer us w (.returned (.slice A us.length c)) w') := fun A c cs w' h1 h2 h3 h4 => ⟨A, c, cs, rfl, h1, h2, h3, h4⟩
 clear hT hil hH
 go_enter Tryz.func51, Tryz.ntmps51
 go_wp2_with fail
 refine (HCL.out w HH.out).mono ?_
 rintro e W1 ⟨⟨v, rfl, hO⟩, hb1⟩
 obtain ⟨vA, vc, hv, hvc⟩ := hO.slice
 subst hv
 have HO1 := Lib.hid hO
 have HB1 := Lib.hid hb1
 have HW1 : Hid (w.heap.size ≤ W1.heap.size) := hb1.size
 have HOB : Hid (∀ q, (Value.slice vA us.length vc).ownBlock = some q → w.heap.size ≤ q ∧ q < W1.heap.size) := fun q hq => hO.lt hq
 clear hO hb1 hx HCL
 go_wp2_with fail
 go_loopw [13] (fun t wr => ∃ (i : Nat) (cs : List PerD), cs.length = i ∧ i ≤ us.length ∧ t = .int .i64 i ∧ Hid (cs.map sayP = (us.take i).map sayP) ∧ Hid (Orow wr w.heap.size 64 4 fPer (.slice vA us.length vc) (cs ++ us.drop i)) ∧ Hid (∀ u ∈ cs, Orow wr W1.heap.size 3 1 fI (.slice u.na u.nos.length u.nc) u.nos ∧ Orow wr W1.heap.size 55 2 fId (.slice u.ia u.ids.length u.ic) u.ids) ∧ Hid (Below w.heap.size w wr) ∧ Hid (W1.heap.size ≤ wr.heap.size)) (fun t _ => us.length - (intOf t).toNat)
 case atStart => exact ⟨0, [], rfl, by omega, rfl, rfl, HO1, (fun u hu => absurd hu (by simp)), HB1, Nat.le_refl _⟩
 case round =>
  obtain ⟨i, cs, hci, hi, rfl, HS, HO, HR, HB, HZ⟩ := hrel
  clear HO1 HB1
  by_cases hlt : i < us.length
  ·have hdr : us.drop i = us[i] :: us.drop (i + 1) := List.drop_eq_getElem_cons hlt
   have hlen : (cs ++ us.drop i).length = us.length := by rw [List.length_append, List.length_drop, hci]; omega
   obtain ⟨g, c9, rest, hv, hle, hBg, hgq, hm, hk, hr⟩ := HO.out.form (by intro e; rw [e] at hlen; simp at hlen; omega)
   rw [hlen] at hv hle hr
   cases hv
   have hix : i < (cs ++ us.drop i).length := by rw [hlen]; exact hlt
   have hge : (cs ++ us.drop i)[i] = us[i] := by
    simp only [hdr]
    rw [List.getElem_append_right (by omega)]
    simp [hci]
   have HCU := Lib.hid (HCP.out us[i] (List.getElem_mem hlt))
   have hk2 := hk
   have cc : ∀ j, j < 4 → wr.cell? ⟨g, i * 4 + j, none⟩ = some (fPer us[i] j) := fun j hj => by
    have h := hk.cell i j hix hj
    rw [hge] at h
    exact h
   have hsay : ((us.take (i + 1)).map sayP) = (us.take i).map sayP ++ [sayP us[i]] := by rw [List.take_succ_eq_append_getElem hlt, List.map_append]; rfl
   have HSY := Lib.hid hsay
   have HSET : Hid (∀ x, (cs ++ us.drop i).set i x = cs ++ [x] ++ us.drop (i + 1)) := fun x => by
    rw [hdr, List.set_append_right _ _ (by omega), hci, Nat.sub_self, List.set_cons_zero, List.append_assoc]
    rfl
   have HKB := Lib.hid hk
   have HRL : Hid (vc ≤ maxLen ∧ us.length ≤ vc ∧ rest.length = vc * 4 - us.length * 4 ∧ w.heap.size ≤ g ∧ (cs ++ us.drop i).length = us.length) := ⟨hm, hle, hr, hBg, hlen⟩
   have hg1 : g < W1.heap.size := (HOB.out g rfl).2
   have HG1 := Lib.hid hg1
   generalize us[i] = u at *
   have c0 : wr.cell? ⟨g, i * 4, none⟩ = some (.int .i64 u.key.kind) := cc 0 (by omega)
   have c1 : wr.cell? ⟨g, i * 4 + 1, none⟩ = some (.string u.key.text) := cc 1 (by omega)
   have c2 : wr.cell? ⟨g, i * 4 + 2, none⟩ = some (.slice u.na u.nos.length u.nc) := cc 2 (by omega)
   have c3 : wr.cell? ⟨g, i * 4 + 3, none⟩ = some (.slice u.ia u.ids.length u.ic) := cc 3 (by omega)
   have hn1 := new1 (w := wr) (.cells #[.int .i64 u.key.kind, .string u.key.text, .slice u.na u.nos.length u.nc, .slice u.ia u.ids.length u.ic] 64)
   have z0 : (wr.alloc (.cells #[.int .i64 u.key.kind, .string u.key.text, .slice u.na u.nos.length u.nc, .slice u.ia u.ids.length u.ic] 64)).cell? ⟨wr.heap.size, 0, none⟩ = some (.int .i64 u.key.kind) := newc 0 rfl
   have z1 : (wr.alloc (.cells #[.int .i64 u.key.kind, .string u.key.text, .slice u.na u.nos.length u.nc, .slice u.ia u.ids.length u.ic] 64)).cell? ⟨wr.heap.size, 1, none⟩ = some (.string u.key.text) := newc 1 rfl
   have z2 : (wr.alloc (.cells #[.int .i64 u.key.kind, .string u.key.text, .slice u.na u.nos.length u.nc, .slice u.ia u.ids.length u.ic] 64)).cell? ⟨wr.heap.size, 2, none⟩ = some (.slice u.na u.nos.length u.nc) := newc 2 rfl
   have z3 : (wr.alloc (.cells #[.int .i64 u.key.kind, .string u.key.text, .slice u.na u.nos.length u.nc, .slice u.ia u.ids.length u.ic] 64)).cell? ⟨wr.heap.size, 3, none⟩ = some (.slice u.ia u.ids.length u.ic) := newc 3 rfl
   have HKB2 := Lib.hid (HKB.out.keep hn1)
   have HN := Lib.hid hn1
   clear cc hk hk2 hdr hlen hix hge hsay hn1 hm hle hr hBg hgq hg1
   go_upto_region 5 with (fail)
   clear c0 c1 c2 c3
   generalize wr.alloc (.cells #[.int .i64 u.key.kind, .string u.key.text, .slice u.na u.nos.length u.nc, .slice u.ia u.ids.length u.ic] 64) = W2 at *
   have HIN2 := Lib.hid (HH.out.below (HB.out.trans (HN.out.mono HB.out.size)))
   go_wp2_with fail
   refine (HCU.out W2 HIN2.out).mono ?_
   rintro e W3 ⟨va, vb, rfl, oa, ob, hb3⟩
   obtain ⟨aA, aC, ha, -⟩ := oa.slice
   obtain ⟨bA, bC, hb, -⟩ := ob.slice
   subst ha hb
   obtain ⟨u', hu'⟩ : ∃ u' : PerD, u' = { u with na := aA, nc := aC, ia := bA, ic := bC } := ⟨_, rfl⟩
   have hsu : sayP u' = sayP u := by rw [hu']; rfl
   have hK3 := HKB2.out.keep hb3
   have hput := hK3.put i (by rw [HRL.out.2.2.2.2]; exact hlt) u'
   rw [HSET.out u'] at hput
   have hth : W3.there g (i * 4) 4 := fun j hj => ⟨by rw [hK3.cell i j (by rw [HRL.out.2.2.2.2]; exact hlt) hj]; rfl, hK3.frozen _⟩
   have HTH := Lib.hid hth
   have hgr : W3.grownBy (W3.setCells g (i * 4) #[.int .i64 u.key.kind, .string u.key.text, .slice aA u.nos.length aC, .slice bA u.ids.length bC].toList) (some g) := (grown_setC (grown_setC (grown_setC (grown_setC (World.grownBy.refl _ _) _ _) _ _) _ _) _ _)
   have hB3 : Below w.heap.size w W3 := HB.out.trans ((HN.out.trans (hb3.mono HN.out.size)).mono HB.out.size)
   have hb23 : Below wr.heap.size wr W3 := HN.out.trans (hb3.mono HN.out.size)
   have hZ2 : W1.heap.size ≤ W2.heap.size := Nat.le_trans HZ.out HN.out.size
   have HBX := Lib.hid (Below.mk9 hB3 hgr (fun q e => by injection e with e; have := HRL.out.2.2.2.1; omega))
   have hou : Orow W3 W1.heap.size 3 1 fI (.slice u'.na u'.nos.length u'.nc) u'.nos ∧ Orow W3 W1.heap.size 55 2 fId (.slice u'.ia u'.ids.length u'.ic) u'.ids := by
    rw [hu']
    exact ⟨oa.mono hZ2, ob.mono hZ2⟩
   have HRX : Hid (∀ y ∈ cs ++ [u'], Orow (W3.setCells g (i * 4) #[.int .i64 u.key.kind, .string u.key.text, .slice aA u.nos.length aC, .slice bA u.ids.length bC].toList) W1.heap.size 3 1 fI (.slice y.na y.nos.length y.nc) y.nos ∧ Orow (W3.setCells g (i * 4) #[.int .i64 u.key.kind, .string u.key.text, .slice aA u.nos.length aC, .slice bA u.ids.length bC].toList) W1.heap.size 55 2 fId (.slice y.ia y.ids.length y.ic) y.ids) := fun y hy => by
    rcases List.mem_append.1 hy with hy | hy
    ·have h := HR.out y hy
     exact ⟨(h.1.below hb23).far hgr HG1.out, (h.2.below hb23).far hgr HG1.out⟩
    ·have e : y = u' := by simpa using hy
     subst e
     exact ⟨hou.1.far hgr HG1.out, hou.2.far hgr HG1.out⟩
   have HOX : Hid (Orow (W3.setCells g (i * 4) #[.int .i64 u.key.kind, .string u.key.text, .slice aA u.nos.length aC, .slice bA u.ids.length bC].toList) w.heap.size 64 4 fPer (.slice (some ⟨g, 0, none⟩) us.length vc) (cs ++ [u'] ++ us.drop (i + 1))) := by
    have hl9 : (cs ++ [u'] ++ us.drop (i + 1)).length = us.length := by
     rw [← HSET.out u', List.length_set]
     exact HRL.out.2.2.2.2
    have hp : KBlk (W3.setCells g (i * 4) #[.int .i64 u.key.kind, .string u.key.text, .slice aA u.nos.length aC, .slice bA u.ids.length bC].toList) g 64 4 fPer (cs ++ [u'] ++ us.drop (i + 1)) rest := by
     rw [hu'] at hput ⊢
     exact hput
    have h := Orow.of_blk hp HRL.out.2.2.2.1 HRL.out.1 (by rw [hl9]; exact HRL.out.2.1) (by rw [hl9]; exact HRL.out.2.2.1)
    rw [hl9] at h
    exact h
   have HSX : Hid ((cs ++ [u']).map sayP = (us.take (i + 1)).map sayP) := by
    show _ = _
    rw [List.map_append, HSY.out, HS.out]
    simp [hsu]
   have HZX : Hid (W1.heap.size ≤ (W3.setCells g (i * 4) #[.int .i64 u.key.kind, .string u.key.text, .slice aA u.nos.length aC, .slice bA u.ids.length bC].toList).heap.size) := Nat.le_trans hZ2 (Nat.le_trans hb3.size hgr.size)
   have hxi : (i : Int) < us.length := by omega
   clear hput hth hgr hB3 hb23 hZ2 hou oa ob hb3 hK3 hsu HKB HKB2 HRL HSET HSY HS HO HR HB HZ HCU HN HIN2 z0 z1 z2 z3
   go_wp2_with (refine wpList_store_mid rfl 64 _ _ rfl g (i * 4) #[.int .i64 u.key.kind, .string u.key.text, .slice aA u.nos.length aC, .slice bA u.ids.length bC] rfl rfl HTH.out (by kernel_rfl) (by simp [Value.oneCell']) ?_; generalize W3.setCells g (i * 4) #[.int .i64 u.key.kind, .string u.key.text, .slice aA u.nos.length aC, .slice bA u.ids.length bC].toList = W9 at HBX HRX HOX HZX ⊢)
   go_roundw
   case rel => exact ⟨i + 1, cs ++ [u'], by simp [hci], by omega, by go_num, HSX, HOX, HRX, HBX, HZX⟩
   case measure => simp [intOf]; omega
  ·have hie : i = us.length := by omega
   subst hie
   have hO := HO.out
   rw [List.drop_length, List.append_nil] at hO
   have hcl : cs.length = us.length := hci
   obtain ⟨A9, c9, e9, hc9, hR9⟩ := hO.memN (Nat.le_refl _)
   rw [hcl] at e9
   cases e9
   have hS := HS.out
   rw [List.take_length] at hS
   have HF := Lib.hid (HPP.out vA vc cs wr hS hvc ⟨hR9, fun y hy => by
    obtain ⟨h1, h2⟩ := HR.out y hy
    obtain ⟨a1, c1, e1, -, r1⟩ := h1.memN (n := w.heap.size) HW1.out
    obtain ⟨a2, c2, e2, -, r2⟩ := h2.memN (n := w.heap.size) HW1.out
    cases e1
    cases e2
    exact ⟨r1, r2⟩⟩ HB.out)
   clear hO hR9 hS HS HO HR HB
   go_wp2_with fail
   exact bodyPost_ret (by kernel_rfl) rfl HF.out
end Go.Proofs.YtbidhpgjmcedaaaGreatDoor
