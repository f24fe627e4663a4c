/- Whatever is added and taken away, in any order, the Index has the persons of the touches that are there: the law. -/
import Derived.Test.YtbidhpgjmcedaaaGreatDoorGCC
import Derived.Test.YtbidhpgjmcedaaaGreatDoorGBP
namespace Go.Proofs.YtbidhpgjmcedaaaGreatDoor
set_option linter.unusedVariables false
open Go.RowKit
def φIx (B0 : Nat) (r : RulD) (xb : Nat) (us : List TchD) (ps : List PerD) (k : Nat) (v : Value) (W : World) : Prop :=
 match k with
 | 0 => v = .agg #[.slice r.ka r.kinds.length r.kc, .int .i64 r.most, .slice r.wa r.weaks.length r.wc, .slice r.sa r.surs.length r.sc]
 | 1 => v = .pointer (some ⟨xb, 0, none⟩)
 | 2 => ∃ (A : Option Addr) (c : Nat) (cs : List TchD), v = .slice A cs.length c ∧ cs.map bare = us.map bare ∧ TchIn (newH B0 W) A cs
 | 3 => ∃ (A : Option Addr) (c : Nat) (qs : List PerD), v = .tuple #[.slice A qs.length c, .int .i64 0] ∧ qs.map sayP = ps.map sayP ∧ PerIn (newH B0 W) A qs
 | 4 => ∃ (A : Option Addr) (c : Nat) (qs : List PerD), v = .tuple #[.slice A qs.length c, .int .i64 0] ∧ qs.map sayP = ps.map sayP ∧ PerIn (newH B0 W) A qs
 | 5 => ∃ (A : Option Addr) (c : Nat) (qs : List PerD), v = .slice A qs.length c ∧ qs.map sayP = ps.map sayP ∧ PerIn (newH B0 W) A qs
 | 6 => v = .int .i64 0
 | _ => ∃ (A : Option Addr) (c : Nat) (qs : List PerD), v = .slice A qs.length c ∧ qs.map sayP = ps.map sayP ∧ PerIn (newH B0 W) A qs
theorem φIx_mono {B0 : Nat} {r : RulD} {xb : Nat} {us : List TchD} {ps : List PerD} (k : Nat) (v : Value) (W W' : World) (_ : k < 8) (he : Below W.heap.size W W') (h : φIx B0 r xb us ps k v W) : φIx B0 r xb us ps k v W' := by
 have hl := newH_step (n := B0) (Nat.le_refl B0) he
 match k, h with
 | 0, h => exact h
 | 1, h => exact h
 | 2, h =>
  obtain ⟨A, c, cs, h1, h2, h3⟩ := h
  exact ⟨A, c, cs, h1, h2, h3.1.le hl, fun t ht => ⟨(h3.2 t ht).1.le hl, (h3.2 t ht).2.le hl⟩⟩
 | 3, h =>
  obtain ⟨A, c, cs, h1, h2, h3⟩ := h
  exact ⟨A, c, cs, h1, h2, h3.le hl⟩
 | 4, h =>
  obtain ⟨A, c, cs, h1, h2, h3⟩ := h
  exact ⟨A, c, cs, h1, h2, h3.le hl⟩
 | 5, h =>
  obtain ⟨A, c, cs, h1, h2, h3⟩ := h
  exact ⟨A, c, cs, h1, h2, h3.le hl⟩
 | 6, h => exact h
 | _ + 7, h =>
  obtain ⟨A, c, cs, h1, h2, h3⟩ := h
  exact ⟨A, c, cs, h1, h2, h3.le hl⟩
theorem Places.all {n : Nat} {zs : List Int} (h : Places n zs) (hl : zs.length = n) {q : Nat} (hq : q < n) : (q : Int) ∈ zs := by
 by_cases c : (q : Int) ∈ zs
 ·exact c
 ·have h1 := nodup_le ((q : Int) :: zs) ((List.range n).map fun i : Nat => (i : Int)) (List.nodup_cons.2 ⟨c, h.1⟩) (fun x hx => by
   rcases List.mem_cons.1 hx with e | e
   ·exact List.mem_map.2 ⟨q, List.mem_range.2 hq, e.symm⟩
   ·obtain ⟨m, hm, e2⟩ := h.2 x e
    exact List.mem_map.2 ⟨m, List.mem_range.2 hm, e2.symm⟩)
  rw [List.length_cons, List.length_map, List.length_range, hl] at h1
  omega
theorem IxS0.more {H6 H : Frz} {w W : World} {bs K K' xb : Nat} {r : RulD} {ts us : List TchD} {D : Nat → Bool} {A Ap : Option Addr} {cap cp : Nat} {ps : List PerD} {rr : List Nat} (h : IxS0 H6 w bs K xb r ts D W H A cap us Ap cp ps rr) (hk : K ≤ K') : IxS0 H6 w bs K' xb r ts D W H A cap us Ap cp ps rr :=
 ⟨h.lw.more hk, h.le, h.hx, h.bx, h.obj, h.rul, h.tch, h.per, h.uf, h.pq, h.eq⟩
theorem IxS0.some_ {H6 H : Frz} {w W : World} {bs K xb : Nat} {r : RulD} {ts us : List TchD} {D : Nat → Bool} {A Ap : Option Addr} {cap cp : Nat} {ps : List PerD} {rr : List Nat} (h : IxS0 H6 w bs K xb r ts D W H A cap us Ap cp ps rr) : IxS H6 w bs K xb r ts D W := ⟨H, A, cap, us, Ap, cp, ps, rr, h⟩
theorem ChgPost.grown {r : RulD} {xb : Nat} {vs : List TchD} {H : Frz} {w w' : World} {e : Ending} (h : ChgPost r xb vs H w e w') : w.grownBy w' (some xb) := by
 obtain ⟨A6, n6, c6, A', cap', us', Ap', cp', ps', rr', he, hm, ho, ht, hpp, hu, hq, hg⟩ := h
 exact hg
theorem IxS0.add {H6 H : Frz} {w W : World} {bs K xb : Nat} {r : RulD} {ts us : List TchD} {D : Nat → Bool} {A Ap : Option Addr} {cap cp : Nat} {ps : List PerD} {rr : List Nat} (I : IxS0 H6 w bs K xb r ts D W H A cap us Ap cp ps rr) (hU : UtfIn H6) (hM : MLen H6) (hR : RightR r) (hts : ∀ t ∈ ts, RightT t) (hl : ts.length < 100) (hte : ∀ t ∈ ts, tchE okT t 0 = 0) (htc : ∀ t ∈ ts, TcIn H6 t) (hno : ts.Pairwise fun a b => a.no < b.no) {p : Nat} (hp : p < ts.length) (hD : D p = false) :
  Calls Tryz.prog 46 #[.pointer (some ⟨xb, 0, none⟩), .agg #[.int .i64 ts[p].no, .int .i64 ts[p].at_, .string ts[p].source, .slice ts[p].ia ts[p].ids.length ts[p].ic, .slice ts[p].fa ts[p].fields.length ts[p].fc]] W fun e w' => (∃ A6 n6 c6, e = .returned (.tuple #[.slice A6 n6 c6, .int .i64 0])) ∧ IxS H6 w bs K xb r ts (updD D p true) w' ∧ W.grownBy w' (some xb) := by
 obtain ⟨i, hi, hlo, hhi, hadd⟩ := sel_add I.eq hno hp hD
 have hus : us.length < 100 := by have h1 := I.len; omega
 refine (add_any H (hU.le I.le) (hM.le I.le) xb r A cap us Ap cp ps ts[p] W I.lw.fin I.hx I.obj I.rul hR I.tch I.per (I.psok hts (by omega)) hus (I.right hts) (fun u hu => ⟨((I.right hts) u hu).len.2, by
  obtain ⟨t, ht, e⟩ := sel_mem I.eq hu
  have e5 : u.fields = t.fields := (congrArg TchD.fields e : (bare u).fields = (bare t).fields)
  rw [e5]
  exact (htc t ht).fl⟩) (hts _ (List.getElem_mem hp)) (hte _ (List.getElem_mem hp)) ((htc _ (List.getElem_mem hp)).le I.le) i hi hlo hhi).mono ?_
 intro e w' hc
 obtain ⟨h1, h2⟩ := I.chg hc hadd
 exact ⟨h1, h2, hc.grown⟩
theorem IxS0.rem {H6 H : Frz} {w W : World} {bs K xb : Nat} {r : RulD} {ts us : List TchD} {D : Nat → Bool} {A Ap : Option Addr} {cap cp : Nat} {ps : List PerD} {rr : List Nat} (I : IxS0 H6 w bs K xb r ts D W H A cap us Ap cp ps rr) (hR : RightR r) (hts : ∀ t ∈ ts, RightT t) (hl : ts.length < 100) (hno : ts.Pairwise fun a b => a.no < b.no) {p : Nat} (hp : p < ts.length) (hD : D p = true) :
  Calls Tryz.prog 48 #[.pointer (some ⟨xb, 0, none⟩), .int .i64 ts[p].no] W fun e w' => (∃ A6 n6 c6, e = .returned (.tuple #[.slice A6 n6 c6, .int .i64 0])) ∧ IxS H6 w bs K xb r ts (updD D p false) w' ∧ W.grownBy w' (some xb) := by
 obtain ⟨i, hi, hn, hrem⟩ := sel_rem I.eq hp hD
 have hus : us.length ≤ 100 := by have h1 := I.len; omega
 rw [← hn]
 refine (remove_any H xb r A cap us Ap cp ps W I.lw.fin I.hx I.obj I.rul hR I.tch I.per (I.psok hts (by omega)) hus (I.right hts) (sel_rising I.eq hno) i hi).mono ?_
 intro e w' hc
 obtain ⟨h1, h2⟩ := I.chg hc hrem
 exact ⟨h1, h2, hc.grown⟩
set_option maxHeartbeats 8000000 in
set_option maxRecDepth 100000 in
theorem indexHasPersons_walk (a0 : Option Addr) (len0 cap0 : Nat) (z0 : List Int) (w : World) (w0 : IsRow .i64 w a0 len0 cap0 z0) (hG : GlobP w) :
  Calls Tryz.prog 8 #[.slice a0 len0 cap0] w fun e w' => e = .returned (.bool true) ∧ Below w.heap.size w w' := by
 have L := Lw.whole w0
 have HPE := Lib.hid (fun W hW => people_any (memH w) hG.utf hG.mlen W hW)
 have HG := Lib.hid hG
 clear hG w0
 go_enter Tryz.func8, Tryz.ntmps8
 go_wp2_with fail
 refine (L.rightRules_of (by omega) HG.out.pool HG.out.names HG.out.mlen (fun K H W h1 h2 h3 h4 => joinsMake _ _ K H W h1 h2 h3 h4)).mono ?_
 rintro e W1 ⟨r, H1, rfl, le1, -, L1, -, hri, hsz, hr0, hwk⟩
 have HL1 := Lib.hid L1
 have HLE1 := Lib.hid le1
 have HRI := Lib.hid hri
 have HSZ := Lib.hid hsz
 have HR0 := Lib.hid hr0
 clear L L1 le1 hri hsz hr0 hwk
 go_wp2_with fail
 refine (HL1.out.range 1 10 (by omega) (by omega) (by omega) (by omega)).mono ?_
 rintro e W2 ⟨n, rfl, n0, n1, Lq, -, -⟩
 have HL2 := Lib.hid Lq
 clear Lq HL1
 obtain ⟨m, rfl⟩ := Int.eq_ofNat_of_zero_le (show (0 : Int) ≤ n by omega)
 go_wp2_with fail
 refine (HL2.out.rightTouches (by omega) (HG.out.pool.le HLE1.out) (HG.out.names.le HLE1.out) (HG.out.utf.le HLE1.out) (HG.out.mlen.le HLE1.out) m (by omega)).mono ?_
 rintro e W3 ⟨v, ts, H2, rfl, le2, -, C3, hok, hlen⟩
 obtain ⟨A, cap, H3, rfl, hcap, le3, L3, R3, -⟩ := C3.1.frozen2
 have HT : Hid (Told H3 A r ts) := ⟨R3, fun t ht => (hok.inn t ht).le le3, (HRI.out.le le2).le le3, HSZ.out, HR0.out, hok.right, by omega⟩
 have HLE3 := Lib.hid (HLE1.out.trans (le2.trans le3))
 have HL3 := Lib.hid (L3.more (K' := 500000) (by omega))
 have hln := HT.out.len
 clear C3 L3 R3 le2 le3 hok HL2 HRI HSZ HLE1
 have HU3 := Lib.hid (HG.out.utf.le HLE3.out)
 have HM3 := Lib.hid (HG.out.mlen.le HLE3.out)
 have HPE3 : Hid (∀ W, H3.In W → Calls Tryz.prog 15 #[] W fun e w' => e = .returned (.bool true) ∧ Below W.heap.size W w') := fun W hW => HPE.out W (hW.le HLE3.out)
 clear HPE HG HLE3
 go_upto_region 3 with (fail)
 have HN := Lib.hid (new1 (w := W3) (.cells #[.slice r.ka r.kinds.length r.kc, .int .i64 r.most, .slice r.wa r.weaks.length r.wc, .slice r.sa r.surs.length r.sc] 44))
 have HRB := Lib.hid (heap_alloc_new W3 (.cells #[.slice r.ka r.kinds.length r.kc, .int .i64 r.most, .slice r.wa r.weaks.length r.wc, .slice r.sa r.surs.length r.sc] 44))
 generalize W3.alloc (.cells #[.slice r.ka r.kinds.length r.kc, .int .i64 r.most, .slice r.wa r.weaks.length r.wc, .slice r.sa r.surs.length r.sc] 44) = W4 at *
 have HIN4 := Lib.hid (HL3.out.fin.below HN.out)
 have z0 := cell_h HRB.out 0 (v := .slice r.ka r.kinds.length r.kc) rfl
 have z1 := cell_h HRB.out 1 (v := .int .i64 r.most) rfl
 have z2 := cell_h HRB.out 2 (v := .slice r.wa r.weaks.length r.wc) rfl
 have z3 := cell_h HRB.out 3 (v := .slice r.sa r.surs.length r.sc) rfl
 have HNW := Lib.hid (new_any H3 HM3.out r W4 HIN4.out HT.out.rul HT.out.sz HT.out.rz HT.out.sz.u (fun x hx => (HT.out.sz.us x hx).2.1))
 go_wp2_with fail
 refine HNW.out.mono ?_
 rintro e W5 ⟨xb, r', rfl, hxo, hr1, hr2, hr3, hri, hxb, hb5⟩
 have HB5 := Lib.hid (HN.out.trans (hb5.mono HN.out.size))
 have hxl : W3.heap.size ≤ xb := Nat.le_trans HN.out.size hxb
 have hL5 := HL3.out.call HB5.out
 have hle5 : H3.Le (exX (H3.all W5 W3.heap.size) xb) := fun b o h => by
  have h1 := HL3.out.fin.lt h
  unfold exX
  rw [if_neg (by omega), Frz.all_lt h1]
  exact h
 have hin5 : (exX (H3.all W5 W3.heap.size) xb).In W5 := (Frz.In.all hL5.fin _).le (exX_le _ _)
 have hLw5 : Lw w w.heap.size 500000 (exX (H3.all W5 W3.heap.size) xb) W5 := ⟨hL5.st, hL5.bel, hL5.le, hin5, by
  have h1 := HL3.out.lt
  unfold exX
  split
  ·rfl
  ·rw [Frz.all_lt h1]; exact HL3.out.apart⟩
 have hrul5 : RulIn (exX (H3.all W5 W3.heap.size) xb) r' := hri.le fun b o h => by
  unfold exX newH at h
  unfold exX
  by_cases c : b = xb
  ·rw [if_pos c] at h; cases h
  ·rw [if_neg c] at h ⊢
   by_cases g : b < W4.heap.size
   ·rw [if_pos g] at h; cases h
   ·rw [if_neg g] at h
    rw [Frz.all_ge (by have := HN.out.size; omega)]
    exact h
 have hrb5 : exX (H3.all W5 W3.heap.size) xb W3.heap.size = some (.cells #[.slice r.ka r.kinds.length r.kc, .int .i64 r.most, .slice r.wa r.weaks.length r.wc, .slice r.sa r.surs.length r.sc] 44 (0, 0)) := by
  have h1 := lt_of_heap HRB.out
  unfold exX
  rw [if_neg (by omega), Frz.all_ge (Nat.le_refl _)]
  exact (hb5.block _ h1).trans HRB.out
 have HOR := Lib.hid (hLw5.order (by omega) ts.length (by omega))
 have HXN : Hid (exX (H3.all W5 W3.heap.size) xb xb = none) := exX_none _ _
 have HX5 := Lib.hid (show xb < W5.heap.size ∧ W3.heap.size ≤ xb from ⟨lt_of_heap hxo, hxl⟩)
 have HXO := Lib.hid hxo
 have HRU := Lib.hid hrul5
 have HRB5 := Lib.hid hrb5
 have HLE5 := Lib.hid hle5
 have HL5 := Lib.hid hLw5
 have HRE : Hid (r'.kinds = r.kinds ∧ r'.most = r.most ∧ r'.weaks = r.weaks) := ⟨hr1, hr2, hr3⟩
 have HBX : Hid (w.heap.size < xb) := by have := HL3.out.lt; show _ < _; omega
 generalize exX (H3.all W5 W3.heap.size) xb = H5 at *
 clear hxo hr1 hr2 hr3 hri hxb hb5 hxl hL5 hle5 hin5 hLw5 hrul5 hrb5 HB5 HNW z0 z1 z2 z3 HIN4
 go_wp2_with fail
 refine HOR.out.mono ?_
 rintro e W6 ⟨vz, zs, rfl, hzl, hpl, hzo, hL6, hg6⟩
 obtain ⟨zA, zc, hzA, -, hzr⟩ := hzo.memN (Nat.le_refl _)
 subst hzA
 rw [hzl]
 have hle6 : H5.Le (H5.all W6 W5.heap.size) := Frz.le_all HL5.out.fin (Nat.le_refl _)
 have HZR : Hid (Rw (H5.all W6 W5.heap.size) zA 1 fI zs) := hzr.le newH_all
 have hbx6 : W6.heap[xb]? = some (.cells (idxCells r' (.slice none 0 0) (.slice none 0 0)) 171 (0, 0)) := (hg6.block xb HX5.out.1 (by intro c; injection c with c; have := HBX.out; omega)).trans HXO.out
 have hI6 : IxS (H5.all W6 W5.heap.size) w w.heap.size (500000 + ts.length) xb r' ts (fun _ => false) W6 := by
  refine ⟨H5.all W6 W5.heap.size, none, 0, [], none, 0, [], [], ⟨⟨hL6.st, hL6.bel, hL6.le, Frz.In.all hL6.fin _, by rw [Frz.all_lt HL5.out.lt]; exact hL6.apart⟩, Frz.Le.refl _, by rw [Frz.all_lt HX5.out.1]; exact HXN.out, HBX.out, hbx6, HRU.out.le hle6, ⟨Rw.nil, fun t ht => absurd ht (by simp)⟩, ⟨Rw.nil, fun t ht => absurd ht (by simp)⟩, uf_nil _, persQ_nil _ _, ?_⟩⟩
  rw [selL_none]
 have HI6 := Lib.hid hI6
 have HT6 := Lib.hid ((HT.out.le HLE5.out).le hle6)
 have HU6 := Lib.hid ((HU3.out.le HLE5.out).le hle6)
 have HM6 := Lib.hid ((HM3.out.le HLE5.out).le hle6)
 have HRB6 := Lib.hid (hle6 _ _ HRB5.out)
 have HPE6 : Hid (∀ W, (H5.all W6 W5.heap.size).In W → Calls Tryz.prog 15 #[] W fun e w' => e = .returned (.bool true) ∧ Below W.heap.size W w') := fun W hW => HPE3.out W ((hW.le hle6).le HLE5.out)
 have HPL := Lib.hid hpl
 have HZL := Lib.hid hzl
 have HTS := Lib.hid (tchs_right (HT.out.right.all (by omega))).2.1
 have HTE := Lib.hid (HT.out.right.all (by omega))
 have HTC := Lib.hid (tchs_iff.1 HTE.out).2.1
 have HRIS := Lib.hid HT.out.rising
 have HRRT : Hid (RightR r') := by
  have h := (rul_right HT.out.rz).1
  obtain ⟨e1, e2, e3⟩ := HRE.out
  exact ⟨by rw [e1]; exact h.kl, by rw [e1]; exact h.ks, by rw [e1]; exact h.kb, by rw [e2]; exact h.most, by rw [e3]; exact h.wl, by rw [e3]; exact h.ws⟩
 clear hzl hpl hzo hL6 hg6 hzr hle6 hbx6 hI6 HOR HT HU3 HM3 HPE3 HLE5 HL5 HXO HRU HRB5 HXN HX5 HL3 HN HRB
 generalize H5.all W6 W5.heap.size = H6 at *
 generalize W3.heap.size = rb at *
 clear H3 H5
 go_wp2_with fail
 go_loopw [44] (fun t wr => ∃ (k : Nat) (D : Nat → Bool), k ≤ ts.length ∧ t = .int .i64 k ∧ Hid (IxS H6 w w.heap.size (500000 + ts.length) xb r' ts D wr) ∧ Hid (∀ q, q < ts.length → (D q = true ↔ (q : Int) ∈ zs.take k))) (fun t _ => ts.length - (intOf t).toNat)
 case atStart => exact ⟨0, fun _ => false, by omega, rfl, HI6, fun q hq => by simp⟩
 case round =>
  obtain ⟨k, D, hk, rfl, HI, HD⟩ := hrel
  clear HI6
  by_cases hlt : k < ts.length
  ·obtain ⟨H, B, capu, us, Ap, cp, ps, rr, I⟩ := HI.out
   have hin := I.lw.fin
   obtain ⟨zb, zo, hzA, hzbl, hzc⟩ := HZR.out.at_ (hin.le I.le) (i := k) (by rw [HZL.out]; exact hlt) (by omega)
   obtain ⟨p, hp, hzp⟩ := HPL.out.2 _ (List.getElem_mem (show k < zs.length by rw [HZL.out]; exact hlt))
   have cz : wr.cell? ⟨zb, zo + k, none⟩ = some (.int .i64 p) := by
    have h : wr.cell? ⟨zb, zo + k * 1 + 0, none⟩ = some (.int .i64 (zs[k]'(by rw [HZL.out]; exact hlt))) := hzc 0 (by omega)
    rw [hzp] at h
    simpa using h
   have hDp : D p = false := by
    cases e : D p with
    | false => rfl
    | true =>
     obtain ⟨m, hm, he⟩ := List.getElem_of_mem ((HD.out p hp).1 e)
     rw [List.length_take] at hm
     rw [List.getElem_take] at he
     have hnd := List.pairwise_iff_getElem.1 HPL.out.1 m k (by omega) (by rw [HZL.out]; exact hlt) (by omega)
     exact absurd (he.trans hzp.symm) hnd
   obtain ⟨i, hi, hlo, hhi, hadd⟩ := sel_add I.eq HRIS.out hp hDp
   obtain ⟨b, off, hA, hbl, hc⟩ := HT6.out.row.at_ (hin.le I.le) hp (by omega)
   have d0 : wr.cell? ⟨b, off + p * 5, none⟩ = some (.int .i64 ts[p].no) := hc 0 (by omega)
   have d1 : wr.cell? ⟨b, off + p * 5 + 1, none⟩ = some (.int .i64 ts[p].at_) := hc 1 (by omega)
   have d2 : wr.cell? ⟨b, off + p * 5 + 2, none⟩ = some (.string ts[p].source) := hc 2 (by omega)
   have d3 : wr.cell? ⟨b, off + p * 5 + 3, none⟩ = some (.slice ts[p].ia ts[p].ids.length ts[p].ic) := hc 3 (by omega)
   have d4 : wr.cell? ⟨b, off + p * 5 + 4, none⟩ = some (.slice ts[p].fa ts[p].fields.length ts[p].fc) := hc 4 (by omega)
   have hus : us.length < 100 := by have h1 := I.len; have h2 := hln; have h3 := hlen; have h4 := n1; omega
   have HAD := Lib.hid (add_any H (HU6.out.le I.le) (HM6.out.le I.le) xb r' B capu us Ap cp ps ts[p] wr hin I.hx I.obj I.rul HRRT.out I.tch I.per (I.psok HTS.out hln) hus (I.right HTS.out) (fun u hu => ⟨((I.right HTS.out) u hu).len.2, by
    obtain ⟨t, ht, e⟩ := sel_mem I.eq hu
    have e5 : u.fields = t.fields := (congrArg TchD.fields e : (bare u).fields = (bare t).fields)
    rw [e5]
    exact (HT6.out.inn t ht).fl⟩) (HTS.out _ (List.getElem_mem hp)) (HTC.out _ (List.getElem_mem hp)) ((HT6.out.inn _ (List.getElem_mem hp)).le I.le) i hi hlo hhi)
   have HCG : Hid (∀ e w', ChgPost r' xb (us.take i ++ ts[p] :: us.drop i) H wr e w' → (∃ A6 n6 c6, e = .returned (.tuple #[.slice A6 n6 c6, .int .i64 0])) ∧ IxS H6 w w.heap.size (500000 + ts.length) xb r' ts (updD D p true) w') := fun e w' hc => I.chg hc hadd
   have HDN : Hid (∀ q, q < ts.length → (updD D p true q = true ↔ (q : Int) ∈ zs.take (k + 1))) := fun q hq => by
    have hkz : k < zs.length := by rw [HZL.out]; exact hlt
    rw [List.take_succ_eq_append_getElem hkz, List.mem_append, List.mem_singleton, hzp]
    unfold updD
    by_cases c : q = p
    ·subst c; simp
    ·rw [if_neg c]
     refine (HD.out q hq).trans ⟨Or.inl, fun h => h.elim id (fun h => absurd (by omega) c)⟩
   have hpi : (p : Int) < ts.length := by omega
   subst hA hzA
   clear hzc hc hzbl hbl hin I HD HI hlo hhi hadd hi hDp hzp
   generalize ts[p] = u at *
   go_wp2_with fail
   refine HAD.out.mono ?_
   rintro e W7 hc7
   obtain ⟨⟨A6, n6, c6, rfl⟩, hI7⟩ := HCG.out _ _ hc7
   have HI7 := Lib.hid hI7
   clear hc7 hI7 HAD HCG d0 d1 d2 d3 d4 cz
   go_wp2_with fail
   go_roundw
   case rel => exact ⟨k + 1, updD D p true, by omega, by go_num, HI7, HDN⟩
   case measure => simp [intOf]; omega
  ·have hke : k = ts.length := by omega
   subst hke
   have HD0 : Hid (∀ q, q < ts.length → D q = true) := fun q hq => (HD.out q hq).2 (by
    rw [List.take_of_length_le (by rw [HZL.out]; exact Nat.le_refl _)]
    exact HPL.out.all HZL.out hq)
   have HI0 : Hid (IxS H6 w w.heap.size (500000 + ts.length + 2 * 0) xb r' ts D wr) := HI.out
   have hln9 : ts.length < 100 := by have h2 := hlen; have h4 := n1; omega
   clear HD HI HPL HZL HZR
   go_wp2_with fail
   go_loopw [62] (fun t wr => ∃ (k : Nat) (D : Nat → Bool), k ≤ ts.length ∧ t = .int .i64 k ∧ Hid (IxS H6 w w.heap.size (500000 + ts.length + 2 * k) xb r' ts D wr) ∧ Hid (∀ q, k ≤ q → q < ts.length → D q = true)) (fun t _ => ts.length - (intOf t).toNat)
   case atStart => exact ⟨0, D, by omega, rfl, HI0, fun q _ hq => HD0.out q hq⟩
   case round =>
    obtain ⟨k, D, hk, rfl, HI, HD⟩ := hrel
    clear HI0 HD0
    by_cases hlt : k < ts.length
    ·obtain ⟨H, B, capu, us, Ap, cp, ps, rr, I⟩ := HI.out
     obtain ⟨b, off, hA, hbl, hc⟩ := HT6.out.row.at_ (I.lw.fin.le I.le) hlt (by omega)
     have d0 : wr.cell? ⟨b, off + k * 5, none⟩ = some (.int .i64 ts[k].no) := hc 0 (by omega)
     have d1 : wr.cell? ⟨b, off + k * 5 + 1, none⟩ = some (.int .i64 ts[k].at_) := hc 1 (by omega)
     have d2 : wr.cell? ⟨b, off + k * 5 + 2, none⟩ = some (.string ts[k].source) := hc 2 (by omega)
     have d3 : wr.cell? ⟨b, off + k * 5 + 3, none⟩ = some (.slice ts[k].ia ts[k].ids.length ts[k].ic) := hc 3 (by omega)
     have d4 : wr.cell? ⟨b, off + k * 5 + 4, none⟩ = some (.slice ts[k].fa ts[k].fields.length ts[k].fc) := hc 4 (by omega)
     have hDk := HD.out k (Nat.le_refl _) hlt
     have HRM := Lib.hid (fun K W (J : IxS H6 w w.heap.size K xb r' ts D W) => by
      obtain ⟨H, B, capu, us, Ap, cp, ps, rr, J⟩ := J
      exact J.rem HRRT.out HTS.out hln9 HRIS.out hlt hDk)
     have HAD := Lib.hid (fun K W (J : IxS H6 w w.heap.size K xb r' ts (updD D k false) W) => by
      obtain ⟨H, B, capu, us, Ap, cp, ps, rr, J⟩ := J
      exact J.add HU6.out HM6.out HRRT.out HTS.out hln9 HTC.out HT6.out.inn HRIS.out hlt (show updD D k false k = false from if_pos rfl))
     have HDR : Hid (∀ b, ∀ q, k + 1 ≤ q → q < ts.length → updD D k b q = true) := fun b q h1 h2 => (if_neg (by omega)).trans (HD.out q (by omega) h2)
     have HDR2 : Hid (∀ q, k + 1 ≤ q → q < ts.length → updD (updD D k false) k true q = true) := fun q h1 h2 => (if_neg (by omega)).trans (HDR.out false q h1 h2)
     have HDN : Hid (∀ q, k + 1 ≤ q → q < ts.length → D q = true) := fun q h1 h2 => HD.out q (by omega) h2
     subst hA
     clear hc hbl hDk HD HI
     generalize ts[k] = u at *
     have z0 : (wr.alloc (.cells #[.int .i64 u.no, .int .i64 u.at_, .string u.source, .slice u.ia u.ids.length u.ic, .slice u.fa u.fields.length u.fc] 53)).cell? ⟨wr.heap.size, 0, none⟩ = some (.int .i64 u.no) := newc 0 rfl
     have z1 : (wr.alloc (.cells #[.int .i64 u.no, .int .i64 u.at_, .string u.source, .slice u.ia u.ids.length u.ic, .slice u.fa u.fields.length u.fc] 53)).cell? ⟨wr.heap.size, 1, none⟩ = some (.int .i64 u.at_) := newc 1 rfl
     have z2 : (wr.alloc (.cells #[.int .i64 u.no, .int .i64 u.at_, .string u.source, .slice u.ia u.ids.length u.ic, .slice u.fa u.fields.length u.fc] 53)).cell? ⟨wr.heap.size, 2, none⟩ = some (.string u.source) := newc 2 rfl
     have z3 : (wr.alloc (.cells #[.int .i64 u.no, .int .i64 u.at_, .string u.source, .slice u.ia u.ids.length u.ic, .slice u.fa u.fields.length u.fc] 53)).cell? ⟨wr.heap.size, 3, none⟩ = some (.slice u.ia u.ids.length u.ic) := newc 3 rfl
     have z4 : (wr.alloc (.cells #[.int .i64 u.no, .int .i64 u.at_, .string u.source, .slice u.ia u.ids.length u.ic, .slice u.fa u.fields.length u.fc] 53)).cell? ⟨wr.heap.size, 4, none⟩ = some (.slice u.fa u.fields.length u.fc) := newc 4 rfl
     have HBN := Lib.hid (new1 (w := wr) (.cells #[.int .i64 u.no, .int .i64 u.at_, .string u.source, .slice u.ia u.ids.length u.ic, .slice u.fa u.fields.length u.fc] 53))
     have HTB := Lib.hid (heap_alloc_new wr (.cells #[.int .i64 u.no, .int .i64 u.at_, .string u.source, .slice u.ia u.ids.length u.ic, .slice u.fa u.fields.length u.fc] 53))
     have hI1 := I.call HBN.out
     have HI1 := Lib.hid hI1
     have HXB : Hid (wr.heap.size ≠ xb ∧ wr.heap.size ≠ w.heap.size) := ⟨by have := lt_of_heap I.obj; omega, by have := I.lw.lt; omega⟩
     have HFL := Lib.hid (hI1.lw.flip 3 (by omega) (by omega))
     clear I hI1
     go_upto_region 16 with (fail)
     clear d0 d1 d2 d3 d4
     generalize wr.alloc (.cells #[.int .i64 u.no, .int .i64 u.at_, .string u.source, .slice u.ia u.ids.length u.ic, .slice u.fa u.fields.length u.fc] 53) = W7 at *
     generalize wr.heap.size = tb at *
     clear z0 z1 z2 z3 z4
     go_wp2_with fail
     refine HFL.out.mono ?_
     rintro e W8 ⟨fb, rfl, hL8, hg8, hs8⟩
     have HI8 := Lib.hid (HI1.out.turn hL8 hg8)
     have HTB8 := Lib.hid ((hg8.block tb (lt_of_heap HTB.out) (by intro c; injection c with c; exact HXB.out.2 c)).trans HTB.out)
     clear hL8 hg8 hs8 HFL HI1 HTB HBN
     cases fb with
     | false =>
      go_wp2_with fail
      go_roundw
      case rel => exact ⟨k + 1, D, by omega, by go_num, (HI8.out.more (by omega)).some_, HDN⟩
      case measure => simp [intOf]; omega
     | true =>
      have HR8 := Lib.hid (HRM.out _ W8 HI8.out.some_)
      have z0 := cell_h HTB8.out 0 (v := .int .i64 u.no) rfl
      clear HI8
      go_wp2_with fail
      refine HR8.out.mono ?_
      rintro e W9 ⟨⟨A6, n6, c6, rfl⟩, hI9, hg9⟩
      have HTB9 := Lib.hid ((hg9.block tb (lt_of_heap HTB8.out) (by intro c; injection c with c; exact HXB.out.1 c)).trans HTB8.out)
      obtain ⟨H, B, capu, us, Ap, cp, ps, rr, I9⟩ := hI9
      have HI9 := Lib.hid I9
      have HFL := Lib.hid (I9.lw.flip 2 (by omega) (by omega))
      clear hg9 I9 z0 HR8 HTB8
      go_wp2_with fail
      refine HFL.out.mono ?_
      rintro e W10 ⟨fc, rfl, hL10, hg10, hs10⟩
      have HI10 := Lib.hid (HI9.out.turn hL10 hg10)
      have HTB10 := Lib.hid ((hg10.block tb (lt_of_heap HTB9.out) (by intro c; injection c with c; exact HXB.out.2 c)).trans HTB9.out)
      clear hL10 hg10 hs10 HFL HI9 HTB9
      cases fc with
      | false =>
       go_wp2_with fail
       go_roundw
       case rel => exact ⟨k + 1, updD D k false, by omega, by go_num, (HI10.out.more (by omega)).some_, HDR.out false⟩
       case measure => simp [intOf]; omega
      | true =>
       have HA10 := Lib.hid (HAD.out _ W10 HI10.out.some_)
       have z0 := cell_h HTB10.out 0 (v := .int .i64 u.no) rfl
       have z1 := cell_h HTB10.out 1 (v := .int .i64 u.at_) rfl
       have z2 := cell_h HTB10.out 2 (v := .string u.source) rfl
       have z3 := cell_h HTB10.out 3 (v := .slice u.ia u.ids.length u.ic) rfl
       have z4 := cell_h HTB10.out 4 (v := .slice u.fa u.fields.length u.fc) rfl
       clear HI10
       go_wp2_with fail
       refine HA10.out.mono ?_
       rintro e W11 ⟨⟨A7, n7, c7, rfl⟩, hI11, hg11⟩
       obtain ⟨H, B, capu, us, Ap, cp, ps, rr, I11⟩ := hI11
       have HI11 := Lib.hid I11
       clear hg11 I11 HA10 z0 z1 z2 z3 z4 HTB10
       go_wp2_with fail
       go_roundw
       case rel => exact ⟨k + 1, _, by omega, by go_num, (HI11.out.more (by omega)).some_, HDR2⟩
       case measure => simp [intOf]; omega
    ·obtain ⟨H, B, capu, us, Ap, cp, ps, rr, I⟩ := HI.out
     have HI9 := Lib.hid I
     clear I HI HD
     have HRBW : Hid (wr.heap[rb]? = some (.cells #[.slice r.ka r.kinds.length r.kc, .int .i64 r.most, .slice r.wa r.weaks.length r.wc, .slice r.sa r.surs.length r.sc] 44 (0, 0))) := HI9.out.lw.fin _ _ (HI9.out.le _ _ HRB6.out)
     have husl : us.length ≤ 100 := by have := HI9.out.len; omega
     have hpsk := HI9.out.psok HTS.out hln
     have hpil : ∀ p ∈ ps, p.ids.length ≤ 1000000 := fun p hp => pers_ids_len HI9.out.pq (fun u hu => by have := (HI9.out.right HTS.out u hu).len; omega) husl hp
     have HAT := Lib.hid (fun W (hW : Below wr.heap.size wr W) => allTch_any H xb B capu us W (HI9.out.lw.fin.below hW) (cell_h ((hW.block xb (lt_of_heap HI9.out.obj)).trans HI9.out.obj) 4 rfl) HI9.out.tch (by omega) (fun u hu => by
      obtain ⟨t, ht, e⟩ := sel_mem HI9.out.eq hu
      have e4 : u.ids = t.ids := (congrArg TchD.ids e : (bare u).ids = (bare t).ids)
      have e5 : u.fields = t.fields := (congrArg TchD.fields e : (bare u).fields = (bare t).fields)
      rw [e4, e5]
      have h1 := (HT6.out.inn t ht).il
      have h2 := (HT6.out.inn t ht).fl
      omega))
     have HAP := Lib.hid (fun W (hW : Below wr.heap.size wr W) => allPer_any H xb Ap cp ps W (HI9.out.lw.fin.below hW) (cell_h ((hW.block xb (lt_of_heap HI9.out.obj)).trans HI9.out.obj) 5 rfl) HI9.out.per (by have := hpsk.1; omega) (fun p hp => ⟨by have := (hpsk.2 p hp).1; omega, hpil p hp⟩))
     have HPC : Hid (∀ A9 c9 cs W, Below wr.heap.size wr W → cs.map bare = us.map bare → TchIn (newH wr.heap.size W) A9 cs → Calls Tryz.prog 22 #[.agg #[.slice r.ka r.kinds.length r.kc, .int .i64 r.most, .slice r.wa r.weaks.length r.wc, .slice r.sa r.surs.length r.sc], .slice A9 cs.length c9] W fun e w' => ∃ v, e = .returned v ∧ (∃ (A : Option Addr) (c : Nat) (qs : List PerD), v = .tuple #[.slice A qs.length c, .int .i64 0] ∧ qs.map sayP = ps.map sayP ∧ PerIn (newH wr.heap.size w') A qs) ∧ Below W.heap.size W w') := fun A9 c9 cs W hW hm hT => by
      have hme : cs.map bare = (selL D ts).map bare := hm.trans HI9.out.eq
      have hle : H.Le (H.all W wr.heap.size) := Frz.le_all HI9.out.lw.fin (Nat.le_refl _)
      have hle6 := HI9.out.le.trans hle
      have hin : (H.all W wr.heap.size).In W := Frz.In.all (HI9.out.lw.fin.below hW) _
      have htold : Told (H.all W wr.heap.size) A9 r cs := by
       refine ⟨hT.1.le newH_all, fun c hc => ?_, HT6.out.rul.le hle6, HT6.out.sz, HT6.out.rz, sel_rightTs hme HTE.out, by rw [bare_len hm]; exact husl⟩
       obtain ⟨t, ht, e⟩ := sel_mem hme hc
       have h := HT6.out.inn t ht
       have e3 : c.source = t.source := (congrArg TchD.source e : (bare c).source = (bare t).source)
       have e4 : c.ids = t.ids := (congrArg TchD.ids e : (bare c).ids = (bare t).ids)
       have e5 : c.fields = t.fields := (congrArg TchD.fields e : (bare c).fields = (bare t).fields)
       exact ⟨(hT.2 c hc).1.le newH_all, (hT.2 c hc).2.le newH_all, by rw [e4]; exact h.il, by rw [e5]; exact h.fl, by rw [e3]; exact h.src, by rw [e4]; exact h.idt, by rw [e5]; exact h.fdt⟩
      refine (persons_toldN _ (HU6.out.le hle6) (HM6.out.le hle6) A9 c9 r cs htold W hin).mono ?_
      rintro e w' ⟨hb, A', c, qs, rr2, rfl, hu2, -, hq2, -, hp2⟩
      have hJ : JD r' us = JD r cs := by
       obtain ⟨e1, e2, e3⟩ := HRE.out
       rw [← JD_bare r cs, hm, JD_bare]
       funext x
       unfold JD
       rw [e1, e2, e3]
      have hv := HI9.out.uf
      have hq := HI9.out.pq
      rw [hJ] at hv hq
      exact ⟨_, rfl, ⟨A', c, qs, rfl, pers_same hm hu2 hq2 hv hq, hp2.le (newH_step hW.size (Below.refl _ _))⟩, hb⟩
     go_upto_region 25 with (fail)
     refine wp_region_conc 8 107 (φIx wr.heap.size r xb us ps) (fun n W' => Below wr.heap.size wr W') (fun a b => Below a.heap.size a b) (by kernel_rfl) (by kernel_rfl) (by rfl) ((Below.refl _ _).drew) φIx_mono ?_ ?_
     ·intro n o hn ho a W2 kk hkk hJ hkn
      have hcs : n = 0 ∨ n = 1 ∨ n = 2 ∨ n = 3 ∨ n = 4 ∨ n = 5 ∨ n = 6 ∨ n = 7 := by omega
      rcases hcs with rfl | rfl | rfl | rfl | rfl | rfl | rfl | rfl
      ·obtain rfl := Option.some.inj ho
       have h1 := slotA_of (hkn 4 (by decide) : a.tmps.getD 4 undef = .pointer (some ⟨rb, 0, none⟩))
       have hq := (hJ.block rb (lt_of_heap HRBW.out)).trans HRBW.out
       have c0 := cell_h hq 0 (v := .slice r.ka r.kinds.length r.kc) rfl
       have c1 := cell_h hq 1 (v := .int .i64 r.most) rfl
       have c2 := cell_h hq 2 (v := .slice r.wa r.weaks.length r.wc) rfl
       have c3 := cell_h hq 3 (v := .slice r.sa r.surs.length r.sc) rfl
       clear hkn ho hq
       simp only [OpV, execOp]
       simp [go_sem, h1, c0, c1, c2, c3]
       exact ⟨rfl, hJ, Below.refl _ _⟩
      ·obtain rfl := Option.some.inj ho
       have h1 := slotA_of (hkn 6 (by decide) : a.tmps.getD 6 undef = .pointer (some ⟨xb, 0, none⟩))
       clear hkn ho
       simp only [OpV, execOp]
       simp [go_sem, h1]
       exact ⟨rfl, hJ, Below.refl _ _⟩
      ·obtain rfl := Option.some.inj ho
       have h1 := slotA_of (hkn 91 (by decide) : a.tmps.getD 91 undef = .pointer (some ⟨xb, 0, none⟩))
       clear hkn ho
       simp only [OpV, execOp]
       simp [go_sem, h1]
       refine (HAT.out W2 hJ).mono ?_
       rintro e w'' ⟨A9, c9, cs, he, hm, -, hT, hb⟩
       have hcl : us.length = cs.length := (bare_len hm).symm
       rw [hcl] at he
       exact ⟨_, he, ⟨A9, c9, cs, rfl, hm, hT.1.le (newH_step hJ.size (Below.refl _ _)), fun t ht => ⟨(hT.2 t ht).1.le (newH_step hJ.size (Below.refl _ _)), (hT.2 t ht).2.le (newH_step hJ.size (Below.refl _ _))⟩⟩, hJ.trans (hb.mono hJ.size), hb⟩
      ·obtain rfl := Option.some.inj ho
       have h1 := slotA_of (hkn 90 (by decide) : a.tmps.getD 90 undef = .agg #[.slice r.ka r.kinds.length r.kc, .int .i64 r.most, .slice r.wa r.weaks.length r.wc, .slice r.sa r.surs.length r.sc])
       obtain ⟨A9, c9, cs, e9, hm, hT⟩ : ∃ (A : Option Addr) (c : Nat) (cs : List TchD), a.tmps.getD 92 undef = .slice A cs.length c ∧ cs.map bare = us.map bare ∧ TchIn (newH wr.heap.size W2) A cs := hkn 92 (by decide)
       have h2 := slotA_of e9
       clear hkn ho e9
       simp only [OpV, execOp]
       simp [go_sem, h1, h2]
       refine (HPC.out A9 c9 cs W2 hJ hm hT).mono ?_
       rintro e w'' ⟨v, he, h3, hb⟩
       exact ⟨v, he, h3, hJ.trans (hb.mono hJ.size), hb⟩
      ·obtain rfl := Option.some.inj ho
       obtain ⟨A9, c9, qs, e9, hm, hT⟩ : ∃ (A : Option Addr) (c : Nat) (qs : List PerD), a.tmps.getD 93 undef = .tuple #[.slice A qs.length c, .int .i64 0] ∧ qs.map sayP = ps.map sayP ∧ PerIn (newH wr.heap.size W2) A qs := hkn 93 (by decide)
       have h1 := slotA_of e9
       clear hkn ho e9
       simp only [OpV, execOp]
       simp [go_sem, h1]
       exact ⟨⟨A9, c9, qs, rfl, hm, hT⟩, hJ, Below.refl _ _⟩
      ·obtain rfl := Option.some.inj ho
       obtain ⟨A9, c9, qs, e9, hm, hT⟩ : ∃ (A : Option Addr) (c : Nat) (qs : List PerD), a.tmps.getD 89 undef = .tuple #[.slice A qs.length c, .int .i64 0] ∧ qs.map sayP = ps.map sayP ∧ PerIn (newH wr.heap.size W2) A qs := hkn 89 (by decide)
       have h1 := slotA_of e9
       clear hkn ho e9
       simp only [OpV, execOp]
       simp [go_sem, h1]
       exact ⟨⟨A9, c9, qs, rfl, hm, hT⟩, hJ, Below.refl _ _⟩
      ·obtain rfl := Option.some.inj ho
       obtain ⟨A9, c9, qs, e9, hm, hT⟩ : ∃ (A : Option Addr) (c : Nat) (qs : List PerD), a.tmps.getD 89 undef = .tuple #[.slice A qs.length c, .int .i64 0] ∧ qs.map sayP = ps.map sayP ∧ PerIn (newH wr.heap.size W2) A qs := hkn 89 (by decide)
       have h1 := slotA_of e9
       clear hkn ho e9
       simp only [OpV, execOp]
       simp [go_sem, h1]
       exact ⟨rfl, hJ, Below.refl _ _⟩
      ·obtain rfl := Option.some.inj ho
       obtain ⟨A9, c9, qs, e9, hm, hT⟩ : ∃ (A : Option Addr) (c : Nat) (qs : List PerD), a.tmps.getD 94 undef = .slice A qs.length c ∧ qs.map sayP = ps.map sayP ∧ PerIn (newH wr.heap.size W2) A qs := hkn 94 (by decide)
       have h1 := slotA_of e9
       clear hkn ho e9
       simp only [OpV, execOp]
       simp [go_sem, h1]
       exact ⟨⟨A9, c9, qs, rfl, hm, hT⟩, hJ, Below.refl _ _⟩
     ·intro xv Wv hJv hφ
      have e6 : xv 6 = .int .i64 0 := hφ 6 (by omega)
      obtain ⟨A9, c9, qs, e7, hm, hT⟩ : ∃ (A : Option Addr) (c : Nat) (qs : List PerD), xv 7 = .slice A qs.length c ∧ qs.map sayP = ps.map sayP ∧ PerIn (newH wr.heap.size Wv) A qs := hφ 7 (by omega)
      have HJV := Lib.hid hJv
      have HM := Lib.hid hm
      have HQ := Lib.hid hT
      have HPV := Lib.hid (HAP.out Wv hJv)
      have HBW := Lib.hid (HI9.out.lw.bel.trans (hJv.mono HI9.out.lw.bel.size))
      have hql : qs.length ≤ 1000000 := by
       have h1 := congrArg List.length hm
       rw [List.length_map, List.length_map] at h1
       have := hpsk.1
       omega
      have HQN : Hid (∀ q ∈ qs, q.nos.length ≤ 1000000 ∧ q.ids.length ≤ 1000000) := fun q hq => by
       have h1 : sayP q ∈ ps.map sayP := by rw [← hm]; exact List.mem_map.2 ⟨q, hq, rfl⟩
       obtain ⟨p, hp, e⟩ := List.mem_map.1 h1
       have e2 : p.nos = q.nos := congrArg (fun x => x.2.1) e
       have e3 : p.ids = q.ids := congrArg (fun x => x.2.2) e
       have h2 := (hpsk.2 p hp).1
       have h3 := hpil p hp
       rw [← e2, ← e3]
       omega
      simp only [List.drop_succ_cons, List.drop_zero, List.take_succ_cons, List.take_zero, putAll, Nat.reduceAdd, e6, e7]
      clear e6 e7 hφ hJv hm hT HAP HAT HPC hpsk hpil
      generalize xv 0 = y0
      generalize xv 1 = y1
      generalize xv 2 = y2
      generalize xv 3 = y3
      generalize xv 4 = y4
      generalize xv 5 = y5
      go_wp2_with fail
      refine HPV.out.mono ?_
      rintro e W12 ⟨A8, c8, cs8, rfl, hm8, -, hT8, hb12⟩
      have hcl : ps.length = cs8.length := by have h1 := congrArg List.length hm8; rw [List.length_map, List.length_map] at h1; exact h1.symm
      rw [hcl]
      have HB12 := Lib.hid (HBW.out.trans (hb12.mono HBW.out.size))
      have HSM := Lib.hid (samePersons_any (wholeH W12) A9 A8 c9 c8 qs cs8 W12 (wholeH_in W12) (HM.out.trans hm8.symm) ((HQ.out.le (newH_step (Nat.le_refl _) hb12)).le (newH_le _ _)) (hT8.le (newH_le _ _)) hql HQN.out)
      have HIN12 := Lib.hid ((HI9.out.lw.fin.below (HJV.out.trans (hb12.mono HJV.out.size))).le HI9.out.le)
      clear hm8 hT8 hb12 hcl HPV
      go_wp2_with fail
      refine HSM.out.mono ?_
      rintro e W13 ⟨rfl, hb13⟩
      have HB13 := Lib.hid (HB12.out.trans (hb13.mono HB12.out.size))
      have HPP := Lib.hid (HPE6.out W13 (HIN12.out.below hb13))
      clear hb13 HSM
      go_wp2_with fail
      refine HPP.out.mono ?_
      rintro e W14 ⟨rfl, hb14⟩
      have HF := Lib.hid (HB13.out.trans (hb14.mono HB13.out.size))
      clear hb14 HPP
      go_wp2_with fail
      exact bodyPost_ret (by kernel_rfl) rfl ⟨rfl, HF.out⟩
end Go.Proofs.YtbidhpgjmcedaaaGreatDoor
