/- Texts of this claim, put together: CutsP. -/
import Derived.Test.YtbidhpgjmcedaaaGreatDoorGBL
import Derived.Test.YtbidhpgjmcedaaaGreatDoorGBM
import Derived.Test.YtbidhpgjmcedaaaGreatDoorGAS
import Derived.Test.YtbidhpgjmcedaaaGreatDoorGBI
import Derived.Test.YtbidhpgjmcedaaaGreatDoorGAJ
import Derived.Test.YtbidhpgjmcedaaaGreatDoorGAE
/- Cuts: what its own group is told, and the state of its loops. -/
namespace Go.Proofs.YtbidhpgjmcedaaaGreatDoor
set_option linter.unusedVariables false
open Go.RowKit
theorem made_any {D : Type} {w : World} {B g n T k : Nat} {f : D → Nat → Value} {d0 : D} {z : Value} (hk : 0 < k) (hz : z.cells.toList = (List.range k).map (f d0)) (h : w.ownsRow B T k (.slice (some ⟨g, 0, none⟩) n n) n (madeCells z.cells (n * k)).toList) : KBlk w g T k f (List.replicate n d0) [] := by
  have hzs : z.cells.size = k := by have := congrArg List.length hz; simpa using this
  rcases h.2 with ⟨h1, _⟩ | ⟨g', cap, cur, hv, hB, hh, hle, hm, hs, ht⟩
  · cases h1
  · injection hv with e1 e2 e3
    injection e1 with e1
    injection e1 with e1
    subst e1 e3
    unfold KBlk
    rw [hh]
    have h2 : cur.toList = (madeCells z.cells (n * k)).toList := by
      rw [← ht, List.take_of_length_le (by simp [hs])]
    have h4 : cellsOf k f (List.replicate n d0) = (madeCells z.cells (n * k)).toList := by
      apply List.ext_getElem?
      intro q
      by_cases hq : q < n * k
      · have hi : q / k < n := Nat.div_lt_of_lt_mul (by rw [Nat.mul_comm]; exact hq)
        have hj : q % k < k := Nat.mod_lt _ hk
        have e : q / k * k + q % k = q := by rw [Nat.mul_comm]; exact Nat.div_add_mod q k
        have := cellsOf_get k f (List.replicate n d0) (q / k) (q % k) (by simpa using hi) hj
        rw [e] at this
        rw [this]
        have h5 : (madeCells z.cells (n * k)).toList[q]? = some z.cells[q % k]! := by
          simp [madeCells, hq, hzs]
        rw [h5]
        have h6 : z.cells[q % k]! = f d0 (q % k) := by
          have h7 : z.cells.toList[q % k]? = some (f d0 (q % k)) := by rw [hz]; simp [hj]
          have h8 : z.cells[q % k]? = some (f d0 (q % k)) := by simpa using h7
          simp [getElem!_def, h8]
        rw [h6]
        simp
      · rw [List.getElem?_eq_none (by rw [cellsOf_len]; simp; omega), List.getElem?_eq_none (by simp [size_madeCells]; omega)]
    rw [h4, List.append_nil, ← h2]
/-- The touches copied so far. -/
def ownR (ts : List TchD) (C : List Nat) (i : Nat) : List TchD := (ownT ts C).take i ++ List.replicate (C.length - i) tch0
theorem ownR_len {ts : List TchD} {C : List Nat} {i : Nat} (h : i ≤ C.length) : (ownR ts C i).length = C.length := by
  unfold ownR
  rw [List.length_append, List.length_take, own_len, List.length_replicate]; omega
theorem ownR_zero (ts : List TchD) (C : List Nat) : ownR ts C 0 = List.replicate C.length tch0 := by
  unfold ownR
  simp
theorem ownR_all (ts : List TchD) (C : List Nat) : ownR ts C C.length = ownT ts C := by
  unfold ownR
  rw [← own_len ts C, List.take_length]
  simp
theorem ownR_succ {ts : List TchD} {C : List Nat} {i : Nat} (h : i < C.length) : (ownR ts C i).set i (tAt ts C[i]) = ownR ts C (i + 1) := by
  unfold ownR
  have hl : i < (ownT ts C).length := by rw [own_len]; exact h
  have h1 : ((ownT ts C).take i).length = i := by rw [List.length_take]; omega
  rw [List.set_append_right _ _ (by omega), h1, Nat.sub_self, List.take_succ_eq_append_getElem hl, own_at h, List.append_assoc]
  congr 1
  obtain ⟨m, hm⟩ : ∃ m, C.length - i = m + 1 := ⟨C.length - i - 1, by omega⟩
  rw [hm, show C.length - (i + 1) = m by omega]
  rfl
theorem nodup_le {α : Type} : ∀ (out l : List α), out.Nodup → (∀ x ∈ out, x ∈ l) → out.length ≤ l.length
  | [], l, _, _ => Nat.zero_le _
  | x :: out, l, hn, hs => by
    obtain ⟨h1, h2⟩ := List.nodup_cons.1 hn
    have hx := hs x (by simp)
    obtain ⟨a, b, rfl⟩ := List.append_of_mem hx
    have := nodup_le out (a ++ b) h2 (fun y hy => by
      have := hs y (List.mem_cons_of_mem _ hy)
      rcases List.mem_append.1 this with h | h
      · exact List.mem_append_left _ h
      · rcases List.mem_cons.1 h with h | h
        · subst h; exact absurd hy h1
        · exact List.mem_append_right _ h)
    simp only [List.length_append, List.length_cons] at this ⊢
    omega
theorem idsOk_len {l out : List IdD} (h : IdsOk l out) : out.length ≤ l.length :=
  nodup_le out l (List.Pairwise.imp (fun {a b} h e => by
    subst e
    have := idCmp_zero.2 (rfl : a = a)
    omega) h.1) (fun x hx => (h.2 x).1 hx)
/-- The ids of a person that too many touches have. -/
def overB (r : RulD) (ts : List TchD) (x : IdD) : Bool := decide (r.most < (manyId ts x : Int))
/-- The own group's ids join just if they join. -/
theorem own_joins {r : RulD} {ts : List TchD} {C : List Nat} {ids ws : List IdD} {M : Int} (hids : IdsOk (C.flatMap fun q => (tAt ts q).ids) ids) (hw : ws.Perm (r.weaks ++ ids.filter (overB r ts))) (hM : (C.length : Int) ≤ M) :
    ∀ i ∈ C, ∀ y ∈ (tAt ts i).ids, joinsD r.kinds M ws (ownT ts C) y = JD r ts y := by
  intro i hi y hy
  have hyi : y ∈ ids := (hids.2 y).2 (List.mem_flatMap.2 ⟨i, hi, hy⟩)
  unfold JD joinsD
  have hm : decide ((manyId (ownT ts C) y : Int) ≤ M) = true := by
    rw [decide_eq_true_eq]
    have : manyId (ownT ts C) y ≤ C.length := by
      unfold manyId
      exact Nat.le_trans (List.length_filter_le _ _) (by rw [own_len]; exact Nat.le_refl _)
    omega
  have hh : hasId ws y = (hasId r.weaks y || overB r ts y) := by
    rw [Bool.eq_iff_iff, Bool.or_eq_true, hasId_iff, hasId_iff, hw.mem_iff, List.mem_append, List.mem_filter]
    exact or_congr Iff.rfl ⟨fun h => h.2, fun h => ⟨hyi, h⟩⟩
  rw [hm, hh]
  unfold overB
  by_cases c : r.most < (manyId ts y : Int)
  · have c2 : ¬ (manyId ts y : Int) ≤ r.most := by omega
    simp [c, c2]
  · have c2 : (manyId ts y : Int) ≤ r.most := by omega
    simp [c, c2]
/-- The rules of the own group. -/
def inR (r : RulD) (M : Int) (wa : Option Addr) (wc : Nat) (ws : List IdD) : RulD := { r with most := M, wa := wa, wc := wc, weaks := ws }
/-- The own group in the making: all else of the world is as it was at W6. -/
structure CutS (w W6 : World) (gp bm : Nat) (r : RulD) (M : Int) (A2 : Option Addr) (n c2 : Nat) (wa : Option Addr) (wc : Nat) (ws : List IdD) (wr : World) : Prop where
  obj : wr.heap[gp]? = some (grpObj (inR r M wa wc ws) A2 n c2 bm)
  row : Orow wr W6.heap.size 55 2 fId (.slice wa ws.length wc) ws
  bel : Below w.heap.size w wr
  sz : W6.heap.size ≤ wr.heap.size
  old : ∀ b, b < W6.heap.size → b ≠ gp → wr.heap[b]? = W6.heap[b]?
  gl : gp < W6.heap.size
  gw : w.heap.size ≤ gp
section
variable {w W6 wr W' : World} {gp bm : Nat} {r : RulD} {M : Int} {A2 : Option Addr} {n c2 : Nat} {wa : Option Addr} {wc : Nat} {ws : List IdD}
theorem CutS.call (h : CutS w W6 gp bm r M A2 n c2 wa wc ws wr) (hb : Below wr.heap.size wr W') : CutS w W6 gp bm r M A2 n c2 wa wc ws W' :=
  ⟨(hb.block _ (lt_of_heap h.obj)).trans h.obj, h.row.below hb, h.bel.trans (hb.mono h.bel.size), Nat.le_trans h.sz hb.size, fun b hb1 hne => (hb.block b (Nat.lt_of_lt_of_le hb1 h.sz)).trans (h.old b hb1 hne), h.gl, h.gw⟩
theorem CutS.alloc (h : CutS w W6 gp bm r M A2 n c2 wa wc ws wr) (o : Obj) : CutS w W6 gp bm r M A2 n c2 wa wc ws (wr.alloc o) := h.call (new1 o)
/-- What lay at W6 but the group's block lies there still. -/
theorem CutS.inn (h : CutS w W6 gp bm r M A2 n c2 wa wc ws wr) {H : Frz} (hH : H.In W6) (hg : H gp = none) : H.In wr := fun b o e => (h.old b (hH.lt e) (fun c => by subst c; rw [hg] at e; cases e)).trans (hH b o e)
/-- A weak id more. -/
theorem CutS.app (h : CutS w W6 gp bm r M A2 n c2 wa wc ws wr) {v' : Value} {ws' : List IdD} (o : Orow W' W6.heap.size 55 2 fId v' ws') (g1 : wr.grownBy W' (Value.slice wa ws.length wc).ownBlock) :
    W'.cell? ⟨gp, 2, none⟩ = some (.slice wa ws.length wc) ∧ W'.frozen? ⟨gp, 2, none⟩ = false ∧ ∃ A' c', v' = .slice A' ws'.length c' ∧ CutS w W6 gp bm r M A2 n c2 A' c' ws' (W'.setCell ⟨gp, 2, none⟩ v') := by
  obtain ⟨A', c', hv, -⟩ := o.slice
  subst hv
  have hgl := h.gl
  have hgw := h.gw
  have hobj : W'.heap[gp]? = some (grpObj (inR r M wa wc ws) A2 n c2 bm) := (g1.block gp (lt_of_heap h.obj) (fun e => by have := (h.row.lt e.symm).1; omega)).trans h.obj
  have hwB : w.heap.size ≤ W6.heap.size := by omega
  have hbel : Below w.heap.size w W' := ⟨g1.os.trans h.bel.os, g1.tape.trans h.bel.tape, g1.output.trans h.bel.output, Nat.le_trans h.bel.size g1.size, fun k hk => (g1.block k (Nat.lt_of_lt_of_le hk h.bel.size) (fun e => by have := (h.row.lt e.symm).1; omega)).trans (h.bel.block k hk)⟩
  refine ⟨cell_h hobj 2 rfl, froz_h hobj 2, A', c', rfl, ⟨?_, ?_, hbel.setCell (p := ⟨gp, 2, none⟩) hgw _, ?_, fun b hb1 hne => ?_, hgl, hgw⟩⟩
  · simp [World.setCell, Array.getElem?_modify, hobj, grpObj, inR]
  · exact ownsRow_heap o (fun g e => Below.heap_setCell W' _ _ g (by have := (o.lt e).1; show g ≠ gp; omega))
  · have := h.sz; have := g1.size; simp [World.setCell]; omega
  · refine (Below.heap_setCell W' _ _ b hne).trans ((g1.block b (Nat.lt_of_lt_of_le hb1 h.sz) (fun e => by have := (h.row.lt e.symm).1; omega)).trans (h.old b hb1 hne))
/-- The own group, ready to be asked. -/
theorem CutS.grp (h : CutS w W6 gp bm r M A2 n c2 wa wc ws wr) {own : List TchD} (hn : own.length = n) {w5 : World} {B N q : Nat} {m : Lit → Option Value} (hS : HavS w5 B bm N (posL own) q m W6) {r0 : RulD} {c0 : Nat} {A0 : Option Addr} {n0 : Nat} (h6 : W6.heap[gp]? = some (grpObj r0 A0 n0 c0 bm))
    {H : Frz} (hH : H.In wr) (hr : RulIn H r) (ht : TchIn H A2 own) : GrpIn (wholeH wr) gp bm q m (inR r M wa wc ws) A2 c2 own := by
  have hle : H.Le (wholeH wr) := fun b o e => hH b o e
  have hbg : bm ≠ gp := hS.map.ne_cells h6
  subst hn
  refine GrpIn.of2 hS (X := fun b => b = gp) (fun b hb hne => h.old b hb hne) hbg (fun g cur c => ?_) h.obj ?_ (ht.le hle)
  · subst c
    rw [h6]
    intro h1
    injection h1 with h1
    injection h1 with _ h1
    exact absurd h1 (by decide)
  · obtain ⟨A', c', e, _, hR⟩ := h.row.memR
    injection e with e1 _ e2
    subst e1
    exact ⟨hr.k.le hle, hR, hr.u.le hle, fun x hx => (hr.s x hx).le hle⟩
end
theorem KBlk.rwH {D : Type} {w : World} {g T k : Nat} {f : D → Nat → Value} {ds : List D} {rest : List Value} (h : KBlk w g T k f ds rest) : Rw (wholeH w) (some ⟨g, 0, none⟩) k f ds := fun i hi => ⟨g, 0, rfl, fun j hj => by
  have hx := cellsOf_get k f ds i j hi hj
  have hlt := (List.getElem?_eq_some_iff.1 hx).1
  unfold KBlk at h
  unfold Frz.cell? wholeH
  simp only [h]
  simp only [Nat.zero_add, Option.isSome_none, Bool.false_eq_true, if_false, List.getElem?_toArray]
  rw [List.getElem?_append_left hlt]
  exact hx⟩
theorem tAt_mem {ts : List TchD} {q : Nat} (h : q < ts.length) : tAt ts q ∈ ts := by
  rw [tAt_lt h]; exact List.getElem_mem h
theorem own_mem {ts : List TchD} {C : List Nat} (hC : ∀ q ∈ C, q < ts.length) {t : TchD} (h : t ∈ ownT ts C) : t ∈ ts := by
  unfold ownT at h
  obtain ⟨q, hq, rfl⟩ := List.mem_map.1 h
  exact tAt_mem (hC q hq)
theorem CutS.start {w W6 W8 : World} {gp bm : Nat} {r : RulD} {M : Int} {A2 : Option Addr} {n c2 : Nat} {wa : Option Addr} {wc : Nat} {ws : List IdD} (h6 : W6.heap[gp]? = some (grpObj r A2 n c2 bm)) (hb : Below w.heap.size w W6) (hg : w.heap.size ≤ gp)
    (h8 : Below (W6.setCell ⟨gp, 1, none⟩ (.int .i64 M)).heap.size (W6.setCell ⟨gp, 1, none⟩ (.int .i64 M)) W8) (hr : Orow W8 (W6.setCell ⟨gp, 1, none⟩ (.int .i64 M)).heap.size 55 2 fId (.slice wa ws.length wc) ws) :
    W8.cell? ⟨gp, 2, none⟩ = some (.slice r.wa r.weaks.length r.wc) ∧ W8.frozen? ⟨gp, 2, none⟩ = false ∧ CutS w W6 gp bm r M A2 n c2 wa wc ws (W8.setCell ⟨gp, 2, none⟩ (.slice wa ws.length wc)) := by
  have hs : (W6.setCell ⟨gp, 1, none⟩ (.int .i64 M)).heap.size = W6.heap.size := by simp [World.setCell]
  have hgl : gp < W6.heap.size := lt_of_heap h6
  have h7 : (W6.setCell ⟨gp, 1, none⟩ (.int .i64 M)).heap[gp]? = some (.cells #[.slice r.ka r.kinds.length r.kc, .int .i64 M, .slice r.wa r.weaks.length r.wc, .slice r.sa r.surs.length r.sc, .slice A2 n c2, .map (some bm)] 152 (0, 0)) := by
    simp [World.setCell, Array.getElem?_modify, h6, grpObj]
  have h88 := (h8.block gp (by rw [hs]; exact hgl)).trans h7
  rw [hs] at hr
  refine ⟨cell_h h88 2 rfl, froz_h h88 2, ⟨by simp [World.setCell, Array.getElem?_modify, h88, grpObj, inR], ownsRow_heap hr (fun g e => Below.heap_setCell W8 _ _ g (by have := (hr.lt e).1; show g ≠ gp; omega)), ?_, ?_, fun b hb1 hne => ?_, hgl, hg⟩⟩
  · exact ((hb.setCell (p := ⟨gp, 1, none⟩) hg _).trans (h8.mono (by rw [hs]; exact hb.size))).setCell (p := ⟨gp, 2, none⟩) hg _
  · have := h8.size; rw [hs] at this; simpa [World.setCell] using this
  · exact (Below.heap_setCell W8 _ _ b hne).trans ((h8.block b (by rw [hs]; exact hb1)).trans (Below.heap_setCell W6 _ _ b hne))
theorem wholeH_cell {w : World} {b o : Nat} {v : Value} (h : w.cell? ⟨b, o, none⟩ = some v) : (wholeH w).cell? ⟨b, o, none⟩ = some v := by
  unfold Frz.cell? wholeH
  simp only [World.cell?] at h ⊢
  split at h <;> simp_all
/-- The places of an id are looked up. -/
theorem GrpIn.look {H : Frz} {gp bm n : Nat} {m : Lit → Option Value} {r : RulD} {A : Option Addr} {cap : Nat} {ts : List TchD} (hG : GrpIn H gp bm n m r A cap ts) {x : IdD} (hx : FitId x) :
    ∃ B c, ∀ W, H.In W → (Instr.lookup 150 (.map (some bm)) (.agg #[.int .i64 x.kind, .string x.text]) false).run Tryz.prog W = .ok (.slice B (posL ts x).length c) W := by
  by_cases hp : posL ts x = []
  · refine ⟨none, 0, fun W hW => ?_⟩
    have := (hG.map W hW).look idKeyed Tryz.underlying150 (z := .slice none 0 0) (by kernel_rfl) (keyId hx) false
    rw [hG.none_ x hx hp] at this
    rw [hp]
    exact this
  · obtain ⟨B, c, e, _⟩ := hG.some_ x hx hp
    refine ⟨B, c, fun W hW => ?_⟩
    have := (hG.map W hW).look idKeyed Tryz.underlying150 (z := .slice none 0 0) (by kernel_rfl) (keyId hx) false
    rw [e] at this
    exact this
def tsCu (v91 : Value) (B n : Nat) (x y : List Value) : List RowT := [⟨8, 94, v91, B, 55, 2, n, x, n + 1, y⟩]
theorem tsCu_own {v91 : Value} {B n : Nat} {x y : List Value} {W0 W : World} {L : Array Bool} {a : Act} (h : RowsJ W0 (tsCu v91 B n x y) L a W) (h8 : L.getD 8 false = true) {z : Value} (e : a.tmps.getD 94 undef = z) : W.ownsRow B 55 2 z (n + 1) y := by
  have o1 := h.own ⟨8, 94, v91, B, 55, 2, n, x, n + 1, y⟩ (by simp [tsCu])
  unfold RowT.own at o1
  simp only [h8, e, if_true] at o1
  exact o1
def φCu (S : Nat) (v91 : Value) (gp : Nat) (d : IdD) (i : Nat) (v : Value) (w : World) : Prop :=
  match i with
  | 0 => v = .pointer (some ⟨gp, 0, none⟩)
  | 1 => v = .pointer (some ⟨gp, 0, none⟩)
  | 2 => v = .pointer (some ⟨gp, 0, none⟩)
  | 3 => v = .pointer (some ⟨gp, 0, none⟩)
  | 4 => v = .pointer (some ⟨gp, 2, none⟩)
  | 5 => v = v91
  | 6 => v = .agg #[.int .i64 d.kind, .string d.text]
  | 7 => TmpS S v #[.int .i64 d.kind, .string d.text] 55 w
  | _ => True
theorem φCu_mono {W0 : World} {v91 : Value} {gp : Nat} {d : IdD} (i : Nat) (x : Value) (w w' : World) (e : RowsE W0 w w') (h : φCu W0.heap.size v91 gp d i x w) : φCu W0.heap.size v91 gp d i x w' := by
  match i, h with
  | 0, h => exact h
  | 1, h => exact h
  | 2, h => exact h
  | 3, h => exact h
  | 4, h => exact h
  | 5, h => exact h
  | 6, h => exact h
  | 7, h => exact TmpS.mono e h
  | i + 8, h => exact trivial
theorem CutS.sorted {w W6 wr W' : World} {gp bm : Nat} {r : RulD} {M : Int} {A2 : Option Addr} {n c2 : Nat} {wa : Option Addr} {wc : Nat} {ws ws' : List IdD} (h : CutS w W6 gp bm r M A2 n c2 wa wc ws wr) (hl : ws'.length = ws.length) (o : Orow W' W6.heap.size 55 2 fId (.slice wa ws.length wc) ws') (g1 : wr.grownBy W' (Value.slice wa ws.length wc).ownBlock) :
    CutS w W6 gp bm r M A2 n c2 wa wc ws' W' := by
  have hgl := h.gl
  have hgw := h.gw
  have hobj : W'.heap[gp]? = some (grpObj (inR r M wa wc ws) A2 n c2 bm) := (g1.block gp (lt_of_heap h.obj) (fun e => by have := (h.row.lt e.symm).1; omega)).trans h.obj
  refine ⟨?_, by rw [hl]; exact o, ⟨g1.os.trans h.bel.os, g1.tape.trans h.bel.tape, g1.output.trans h.bel.output, Nat.le_trans h.bel.size g1.size, fun k hk => (g1.block k (Nat.lt_of_lt_of_le hk h.bel.size) (fun e => by have := (h.row.lt e.symm).1; omega)).trans (h.bel.block k hk)⟩, Nat.le_trans h.sz g1.size, fun b hb hne => (g1.block b (Nat.lt_of_lt_of_le hb h.sz) (fun e => by have := (h.row.lt e.symm).1; omega)).trans (h.old b hb hne), hgl, hgw⟩
  rw [hobj]
  simp [grpObj, inR, hl]
theorem foldl_max_pos : ∀ (zs : List Int) (a : Int), 0 < zs.foldl max a ↔ 0 < a ∨ ∃ z ∈ zs, 0 < z
  | [], a => by simp
  | z :: zs, a => by
    rw [List.foldl_cons, foldl_max_pos zs (max a z)]
    constructor
    · rintro (h | ⟨y, hy, h⟩)
      · rcases Int.le_total a z with c | c
        · exact Or.inr ⟨z, by simp, by omega⟩
        · exact Or.inl (by omega)
      · exact Or.inr ⟨y, List.mem_cons_of_mem _ hy, h⟩
    · rintro (h | ⟨y, hy, h⟩)
      · exact Or.inl (by omega)
      · rcases List.mem_cons.1 hy with rfl | hy
        · exact Or.inl (by omega)
        · exact Or.inr ⟨y, hy, h⟩
theorem maxOf_tab {n : Nat} (hn : 0 < n) (F : Nat → Nat) : 0 < Lib.maxOf (tab n fun k => (F k : Int)) ↔ ¬ ∀ a, a < n → F a = 0 := by
  unfold Lib.maxOf
  rw [foldl_max_pos]
  have h0 : (tab n fun k => (F k : Int)).headD 0 = (F 0 : Int) := by
    obtain ⟨m, rfl⟩ : ∃ m, n = m + 1 := ⟨n - 1, by omega⟩
    simp [tab, List.range_succ_eq_map]
  rw [h0]
  constructor
  · rintro (h | ⟨z, hz, h⟩) hall
    · have := hall 0 hn; omega
    · unfold tab at hz
      obtain ⟨a, ha, rfl⟩ := List.mem_map.1 hz
      have := hall a (List.mem_range.1 ha)
      omega
  · intro h
    apply Classical.byContradiction
    intro hc
    apply h
    intro a ha
    apply Classical.byContradiction
    intro hne
    exact hc (Or.inr ⟨(F a : Int), by unfold tab; exact List.mem_map.2 ⟨a, List.mem_range.2 ha, rfl⟩, by omega⟩)
end Go.Proofs.YtbidhpgjmcedaaaGreatDoor
