/- Texts of this claim, put together: OfPriP, OfPri, OfPrice. -/
import Derived.Test.YtihcmifikbkbcaaGreatPH
import Derived.Test.YtihcmifikbkbcaaGreatPE
import Derived.Laws.ResultCell
/- Offers applied one after the other: the states. -/
namespace Go.Proofs.YtihcmifikbkbcaaGreat
set_option linter.unusedVariables false
open Go.RowKit
def fTk (p : ByteArray × Nat) : Nat → Value
  | 0 => .string p.1
  | _ => .int .i64 (p.2 : Int)
theorem infoTk : (Tryz.prog.info? 44).map (fun i => (i.zero, i.size, i.bytes)) = some (some (.agg #[.string ⟨#[]⟩, .int .i64 0]), 2, 24) := by kernel_rfl
/-- A pricer whose lines are being made. -/
structure PrB (H : Frz) (w : World) (g : Nat) (A : Option Addr) (cap : Nat) (xs : List ItD) (bship : Int) (ship : Nat) (vl : Value) (lefts : List Nat) (wr : World) : Prop where
  inn : H.In wr
  bel : Below w.heap.size w wr
  blk : wr.heap[g]? = some (.cells #[.slice A xs.length cap, .int .i64 bship, vl, .int .i64 (ship : Int)] 120 (0, 0))
  lrow : Orow wr (g + 1) 3 1 fN vl lefts
  no : ∀ b, g ≤ b → H b = none
  hg : w.heap.size ≤ g
section
variable {H Hs : Frz} {w W0 W9 W W' : World} {g go : Nat} {A : Option Addr} {cap : Nat} {xs : List ItD} {bship : Int} {ship : Nat} {vl vo vc : Value} {lefts : List Nat} {s s' : PrS} {tk : List (ByteArray × Nat)}
theorem PrB.call (h : PrB H w g A cap xs bship ship vl lefts W) (hb : Below W.heap.size W W') : PrB H w g A cap xs bship ship vl lefts W' :=
  ⟨h.inn.below hb, h.bel.trans (hb.mono h.bel.size), (hb.block _ (lt_of_heap h.blk)).trans h.blk, h.lrow.below hb, h.no, h.hg⟩
def tsPb (vl : Value) (g n : Nat) (x y : List Value) : List RowT := [⟨11, 36, vl, g + 1, 3, 1, n, x, n + 1, y⟩]
theorem PrB.next (h : PrB H w g A cap xs bship ship vl lefts W0) {m : Nat} {L : Array Bool} {a : Act}
    (hW : RowsJ W0 (tsPb vl g lefts.length (cellsOf 1 fN lefts) (cellsOf 1 fN lefts ++ [.int .i64 m])) L a W9) (h11 : L.getD 11 false = true) {z : Value} (e : a.tmps.getD 36 undef = z) :
    W9.cell? ⟨g, 2, none⟩ = some vl ∧ W9.frozen? ⟨g, 2, none⟩ = false ∧ PrB H w g A cap xs bship ship z (lefts ++ [m]) (W9.setCell ⟨g, 2, none⟩ z) := by
  have hge : ∀ t ∈ tsPb vl g lefts.length (cellsOf 1 fN lefts) (cellsOf 1 fN lefts ++ [.int .i64 m]), ∀ b, t.v.ownBlock = some b → g + 1 ≤ b := by
    intro t ht b hb
    simp only [tsPb, List.mem_cons, List.not_mem_nil, or_false] at ht
    subst ht
    exact (Orow.lt h.lrow hb).1
  have ho := hW.own ⟨11, 36, vl, g + 1, 3, 1, lefts.length, cellsOf 1 fN lefts, lefts.length + 1, cellsOf 1 fN lefts ++ [.int .i64 m]⟩ (by simp [tsPb])
  unfold RowT.own at ho
  simp only [h11, e, if_true] at ho
  have hsz := lt_of_heap h.blk
  have hblk := (hW.keep g hsz (fun t ht c => by have := hge t ht _ c; omega)).trans h.blk
  have hbel : Below (g + 1) W0 W9 := hW.below (by omega) hge
  have hgw := h.hg
  have hg : W9.grownBy (W9.setCell ⟨g, 2, none⟩ z) (some g) := ⟨rfl, rfl, rfl, by simp [World.setCell], fun k hk hne => Below.heap_setCell W9 _ _ k (fun e => hne (by rw [e]))⟩
  refine ⟨cell_h hblk 2 rfl, froz_h hblk 2, ⟨?_, ?_, ?_, ?_, h.no, h.hg⟩⟩
  · exact Frz.In.setCell (hW.inn h.inn (fun t ht b hb => h.no b (by have := hge t ht b hb; omega))) (h.no g (Nat.le_refl _)) _
  · exact (h.bel.trans (hbel.mono (by omega))).setCell h.hg _
  · simp [World.setCell, Array.getElem?_modify, hblk]
  · have : Orow W9 (g + 1) 3 1 fN z (lefts ++ [m]) := by
      show World.ownsRow _ _ _ _ _ _ _
      rw [cellsOf_snoc, show (lefts ++ [m]).length = lefts.length + 1 from by simp]
      exact ho
    exact this.far hg (by omega)
/-- What is so at the head of the second loop. -/
structure PrC (H Hs : Frz) (w : World) (g go : Nat) (A : Option Addr) (cap : Nat) (xs : List ItD) (bship : Int) (vl : Value) (s : PrS) (vo vc : Value) (tk : List (ByteArray × Nat)) (wr : World) : Prop where
  pr : PrW H g A cap xs bship vl s wr
  out : wr.heap[go]? = some (.cells #[.slice none 0 0, .int .i64 0, vo, .int .i64 0] 35 (0, 0))
  crow : Orow wr (go + 1) 44 2 fTk vc tk
  bel : Below w.heap.size w wr
  ins : Hs.In wr
  ns : ∀ b, b ≤ go → Hs b = none
  nc : ∀ b, vc.ownBlock = some b → Hs b = none
  vlt : ∀ b, vl.ownBlock = some b → b < go
  gg : g < go
  hg : w.heap.size ≤ g
theorem PrC.below (h : PrC H Hs w g go A cap xs bship vl s vo vc tk W) (hb : Below W.heap.size W W') : PrC H Hs w g go A cap xs bship vl s vo vc tk W' :=
  ⟨h.pr.below hb, (hb.block _ (lt_of_heap h.out)).trans h.out, h.crow.below hb, h.bel.trans (hb.mono h.bel.size), h.ins.below hb, h.ns, h.nc, h.vlt, h.gg, h.hg⟩
theorem PrC.kept (h : PrC H Hs w g go A cap xs bship vl s vo vc tk W) (hp : PrW H g A cap xs bship vl s' W') (hk : PKeep g vl W W') : PrC H Hs w g go A cap xs bship vl s' vo vc tk W' := by
  have hgg := h.gg
  have hne : ∀ b, go ≤ b → b ≠ g ∧ vl.ownBlock ≠ some b := fun b hb => ⟨by omega, fun e => by have := h.vlt b e; omega⟩
  have hb : ∀ b, go ≤ b → b < W.heap.size → W'.heap[b]? = W.heap[b]? := fun b h1 h2 => hk.block b h2 (hne b h1).1 (hne b h1).2
  refine ⟨hp, (hb go (Nat.le_refl _) (lt_of_heap h.out)).trans h.out, ?_, ?_, ?_, h.ns, h.nc, h.vlt, h.gg, h.hg⟩
  · refine ⟨h.crow.1, ?_⟩
    rcases h.crow.2 with c | ⟨q, cap, cur, hv, hq, hh, r⟩
    · exact Or.inl c
    · exact Or.inr ⟨q, cap, cur, hv, hq, (hb q (by omega) (lt_of_heap hh)).trans hh, r⟩
  · have hg := h.hg
    have := h.bel
    refine ⟨hk.os.trans this.os, hk.tape.trans this.tape, hk.output.trans this.output, Nat.le_trans this.size hk.size, fun b hb => ?_⟩
    exact (hk.block b (Nat.lt_of_lt_of_le hb this.size) (by omega) (fun e => by have := (Orow.lt h.pr.lrow e).1; omega)).trans (this.block b hb)
  · intro b o e
    have : go < b := by
      rcases Nat.lt_or_ge go b with c | c
      · exact c
      · rw [h.ns b c] at e; cases e
    exact (hb b (by omega) (h.ins.lt e)).trans (h.ins b o e)
theorem PrC.store (h : PrC H Hs w g go A cap xs bship vl s vo vc tk W) : W.cell? ⟨go, 2, none⟩ = some vo ∧ W.frozen? ⟨go, 2, none⟩ = false ∧ PrC H Hs w g go A cap xs bship vl s vc vc tk (W.setCell ⟨go, 2, none⟩ vc) := by
  have hout := h.out
  have hgg := h.gg
  have hhg := h.hg
  have hg : W.grownBy (W.setCell ⟨go, 2, none⟩ vc) (some go) := ⟨rfl, rfl, rfl, by simp [World.setCell], fun k hk hne => Below.heap_setCell W _ _ k (fun e => hne (by rw [e]))⟩
  refine ⟨cell_h hout 2 rfl, froz_h hout 2, ⟨⟨h.pr.inn.setCell (h.pr.no go (by omega)) _, (Below.heap_setCell W _ _ g (by show g ≠ go; omega)).trans h.pr.blk, h.pr.lrow.kept hg (Or.inr (fun e => by have := h.vlt go e; omega)), h.pr.row, h.pr.its, h.pr.len, h.pr.small, h.pr.bd, h.pr.sh, h.pr.no⟩, ?_, h.crow.far hg (by omega), h.bel.setCell (by show w.heap.size ≤ go; omega) _, h.ins.setCell (h.ns go (Nat.le_refl _)) _, h.ns, h.nc, h.vlt, h.gg, h.hg⟩⟩
  simp [World.setCell, Array.getElem?_modify, hout]
/-- What is so in the region that applies an offer. -/
structure PaJ (H Hs : Frz) (w : World) (g go : Nat) (A : Option Addr) (cap : Nat) (xs : List ItD) (bship : Int) (vl : Value) (s : PrS) (d : OfD) (vc : Value) (tk : List (ByteArray × Nat)) (g10 : Nat) (W0 : World) (L : Array Bool) (a : Act) (W : World) : Prop where
  size : W0.heap.size ≤ W.heap.size
  c : PrC H Hs w g go A cap xs bship vl (if L.getD 6 false = true then applyS d xs s else s) vc (if L.getD 9 false = true then a.tmps.getD 56 undef else vc) (if L.getD 9 false = true then tk ++ [(d.key, applyT d xs s)] else tk) W
  off : W.heap[g10]? = some (.cells #[.string d.key, .int .i64 d.kind, .int .i64 d.a, .int .i64 d.b, .slice d.ta d.tags.length d.tc, .int .i64 d.least, .int .i64 d.most, .string d.group, .bool d.alone, .int .i64 d.order, .int .i64 d.first, .int .i64 d.last] 50 (0, 0))
  gq : go < g10
  big : go < W0.heap.size
  low : ∀ b, vc.ownBlock = some b → b < W0.heap.size
  own : vc.ownBlock ≠ some g10
theorem PaJ.step {d : OfD} {g10 : Nat} {L : Array Bool} {a : Act} (h : PaJ H Hs w g go A cap xs bship vl s d vc tk g10 W0 L a W) (hb : Below W.heap.size W W') {i t : Nat} (h6 : i ≠ 6) (h9 : i ≠ 9) (ht : t ≠ 56) (v : Value) :
    PaJ H Hs w g go A cap xs bship vl s d vc tk g10 W0 (L.setIfInBounds i true) (a.put (some t) v) W' := by
  have e6 : (L.setIfInBounds i true).getD 6 false = L.getD 6 false := getD_set_ne false h6
  have e9 : (L.setIfInBounds i true).getD 9 false = L.getD 9 false := getD_set_ne false h9
  have eT : (a.put (some t) v).tmps.getD 56 undef = a.tmps.getD 56 undef := by
    simp only [Act.put, Array.getD_eq_getD_getElem?, Array.getElem?_setIfInBounds]
    rw [if_neg ht]
  refine ⟨Nat.le_trans h.size hb.size, ?_, (hb.block _ (lt_of_heap h.off)).trans h.off, h.gq, h.big, h.low, h.own⟩
  rw [e6, e9, eT]
  exact h.c.below hb
theorem PaJ.call {d : OfD} {g10 : Nat} {L : Array Bool} {a : Act} (h : PaJ H Hs w g go A cap xs bship vl s d vc tk g10 W0 L a W) (hsz : 6 < L.size) (hp : PrW H g A cap xs bship vl (applyS d xs s) W') (hk : PKeep g vl W W') (v : Value) :
    PaJ H Hs w g go A cap xs bship vl s d vc tk g10 W0 (L.setIfInBounds 6 true) (a.put (some 53) v) W' ∧ RowsE W0 W W' := by
  have e6 : (L.setIfInBounds 6 true).getD 6 false = true := getD_set_self hsz
  have e9 : (L.setIfInBounds 6 true).getD 9 false = L.getD 9 false := getD_set_ne false (by omega)
  have eT : (a.put (some 53) v).tmps.getD 56 undef = a.tmps.getD 56 undef := by
    simp only [Act.put, Array.getD_eq_getD_getElem?, Array.getElem?_setIfInBounds]
    rw [if_neg (by omega)]
  have hgg := h.c.gg
  have hgq := h.gq
  have hbig := h.big
  have hne : ∀ b, go ≤ b → b < W.heap.size → W'.heap[b]? = W.heap[b]? := fun b h1 h2 => hk.block b h2 (by omega) (fun e => by have := h.c.vlt b e; omega)
  refine ⟨⟨Nat.le_trans h.size hk.size, ?_, (hne g10 (by omega) (lt_of_heap h.off)).trans h.off, h.gq, h.big, h.low, h.own⟩, ⟨hk.size, fun b hb1 hb2 => hne b (by omega) hb2⟩⟩
  rw [e6, e9, eT, if_pos rfl]
  exact h.c.kept hp hk
theorem PrC.app (h : PrC H Hs w g go A cap xs bship vl s vo vc tk W) {v : Value} {x : ByteArray × Nat} (ho : Orow W' (go + 1) 44 2 fTk v (tk ++ [x])) (hg : W.grownBy W' vc.ownBlock) (hat : v.ownBlock = vc.ownBlock ∨ v.ownBlock = some W.heap.size) :
    PrC H Hs w g go A cap xs bship vl s vo v (tk ++ [x]) W' := by
  have hgg := h.gg
  have hhg := h.hg
  have hlo : ∀ b, vc.ownBlock = some b → go + 1 ≤ b := fun b e => (Orow.lt h.crow e).1
  have hb : ∀ b, b < W.heap.size → b ≤ go → W'.heap[b]? = W.heap[b]? := fun b h1 h2 => hg.block b h1 (fun e => by have := hlo b e.symm; omega)
  refine ⟨⟨h.pr.inn.grown' hg (fun b e => h.pr.no b (by have := hlo b e; omega)), (hb g (lt_of_heap h.pr.blk) (by omega)).trans h.pr.blk, h.pr.lrow.kept hg ?_, h.pr.row, h.pr.its, h.pr.len, h.pr.small, h.pr.bd, h.pr.sh, h.pr.no⟩, (hb go (lt_of_heap h.out) (Nat.le_refl _)).trans h.out, ho, ?_, h.ins.grown' hg h.nc, h.ns, ?_, h.vlt, h.gg, h.hg⟩
  · cases e : vl.ownBlock with
    | none => exact Or.inl rfl
    | some q =>
      right
      intro c
      have h1 := h.vlt q e
      have h2 := hlo q c.symm
      omega
  · exact h.bel.grown hg h.bel.size (fun q hq => by have := hlo q hq; omega)
  · intro b e
    rcases hat with c | c
    · exact h.nc b (c ▸ e)
    · rw [c] at e
      injection e with e
      exact h.ins.none_ (by omega)
theorem PaJ.app {d : OfD} {g10 : Nat} {L : Array Bool} {a : Act} (h : PaJ H Hs w g go A cap xs bship vl s d vc tk g10 W0 L a W) (h9 : L.getD 9 false = false) (hsz : 9 < L.size) (hs : 56 < a.tmps.size) {v : Value}
    (ho : Orow W' (go + 1) 44 2 fTk v (tk ++ [(d.key, applyT d xs s)])) (hg : W.grownBy W' vc.ownBlock) (hat : v.ownBlock = vc.ownBlock ∨ v.ownBlock = some W.heap.size) :
    PaJ H Hs w g go A cap xs bship vl s d vc tk g10 W0 (L.setIfInBounds 9 true) (a.put (some 56) v) W' ∧ RowsE W0 W W' := by
  have e6 : (L.setIfInBounds 9 true).getD 6 false = L.getD 6 false := getD_set_ne false (by omega)
  have e9 : (L.setIfInBounds 9 true).getD 9 false = true := getD_set_self hsz
  have eT : (a.put (some 56) v).tmps.getD 56 undef = v := by rw [getD_put hs, if_pos rfl]
  have hc := h.c
  rw [h9] at hc
  simp only [Bool.false_eq_true, if_false] at hc
  refine ⟨⟨Nat.le_trans h.size hg.size, ?_, (hg.block g10 (lt_of_heap h.off) (fun e => h.own e.symm)).trans h.off, h.gq, h.big, h.low, h.own⟩, ⟨hg.size, fun b hb1 hb2 => hg.block b hb2 (fun e => by have := h.low b e.symm; omega)⟩⟩
  rw [e6, e9, eT, if_pos rfl, if_pos rfl]
  exact hc.app ho hg hat
/-- What is so in the last loop. -/
structure PrD (H Hl : Frz) (w : World) (g go : Nat) (vl : Value) (lefts : List Nat) (ship : Nat) (vc : Value) (tk : List (ByteArray × Nat)) (tot : Nat) (wr : World) : Prop where
  inn : H.In wr
  inl : Hl.In wr
  out : wr.heap[go]? = some (.cells #[vl, .int .i64 (ship : Int), vc, .int .i64 (tot : Int)] 35 (0, 0))
  lrow : Orow wr (g + 1) 3 1 fN vl lefts
  crow : Orow wr (go + 1) 44 2 fTk vc tk
  bel : Below w.heap.size w wr
  no : H go = none
  nl : Hl go = none
  vlt : ∀ b, vl.ownBlock = some b → b < go
  gg : g < go
  hg : w.heap.size ≤ g
theorem PrD.set {Hl : Frz} {tot : Nat} (h : PrD H Hl w g go vl lefts ship vc tk tot W) (x : Nat) : W.cell? ⟨go, 3, none⟩ = some (.int .i64 (tot : Int)) ∧ W.frozen? ⟨go, 3, none⟩ = false ∧ PrD H Hl w g go vl lefts ship vc tk x (W.setCell ⟨go, 3, none⟩ (.int .i64 (x : Int))) := by
  have hout := h.out
  have hgg := h.gg
  have hhg := h.hg
  have hg : W.grownBy (W.setCell ⟨go, 3, none⟩ (.int .i64 (x : Int))) (some go) := ⟨rfl, rfl, rfl, by simp [World.setCell], fun k hk hne => Below.heap_setCell W _ _ k (fun e => hne (by rw [e]))⟩
  refine ⟨cell_h hout 3 rfl, froz_h hout 3, ⟨h.inn.setCell h.no _, h.inl.setCell h.nl _, ?_, h.lrow.kept hg (Or.inr (fun e => by have := h.vlt go e; omega)), h.crow.far hg (by omega), h.bel.setCell (by show w.heap.size ≤ go; omega) _, h.no, h.nl, h.vlt, h.gg, h.hg⟩⟩
  simp [World.setCell, Array.getElem?_modify, hout]
theorem PrC.fin {Al : Option Addr} {capl : Nat} (h : PrC H Hs w g go A cap xs bship (.slice Al s.left.length capl) s vo vc tk W) (hvo : vo = vc) :
    ∃ Hl, Rw Hl Al 1 fN s.left ∧ (((((W.setCell ⟨go, 0, none⟩ (.slice Al s.left.length capl)).setCell ⟨go, 1, none⟩ (.int .i64 (s.ship : Int))).setCell ⟨go, 3, none⟩ (.int .i64 (s.ship : Int))).drew).cell? ⟨g, 2, none⟩ = some (.slice Al s.left.length capl)) ∧
      PrD H Hl w g go (.slice Al s.left.length capl) s.left s.ship vc tk s.ship ((((W.setCell ⟨go, 0, none⟩ (.slice Al s.left.length capl)).setCell ⟨go, 1, none⟩ (.int .i64 (s.ship : Int))).setCell ⟨go, 3, none⟩ (.int .i64 (s.ship : Int))).drew) := by
  subst hvo
  obtain ⟨Al', capl', Hl, hv, -, q1, -, hR, q3⟩ := Orow.freezeN h.pr.lrow Frz.empty
  injection hv with e1 e2 e3
  subst e1
  have hout := h.out
  have hgg := h.gg
  have hhg := h.hg
  have hg : W.grownBy (((W.setCell ⟨go, 0, none⟩ (.slice Al s.left.length capl)).setCell ⟨go, 1, none⟩ (.int .i64 (s.ship : Int))).setCell ⟨go, 3, none⟩ (.int .i64 (s.ship : Int))) (some go) :=
    ⟨rfl, rfl, rfl, by simp [World.setCell], fun k hk hne => (Below.heap_setCell _ _ _ k (fun e => hne (by rw [e]))).trans ((Below.heap_setCell _ _ _ k (fun e => hne (by rw [e]))).trans (Below.heap_setCell W _ _ k (fun e => hne (by rw [e]))))⟩
  have hno := h.pr.no go (by omega)
  have hnl : Hl go = none := by rw [q3 go (fun e => by have := h.vlt go e; omega)]; rfl
  have key : PrD H Hl w g go (.slice Al s.left.length capl) s.left s.ship vo tk s.ship (((W.setCell ⟨go, 0, none⟩ (.slice Al s.left.length capl)).setCell ⟨go, 1, none⟩ (.int .i64 (s.ship : Int))).setCell ⟨go, 3, none⟩ (.int .i64 (s.ship : Int))) := by
    refine ⟨Frz.In.grown h.pr.inn hg hno, Frz.In.grown (q1 (Frz.In.empty _)) hg hnl, ?_, h.pr.lrow.kept hg (Or.inr (fun e => by have := h.vlt go e; omega)), h.crow.far hg (by omega), h.bel.grown hg h.bel.size (fun q hq => by injection hq with hq; omega), hno, hnl, h.vlt, h.gg, h.hg⟩
    simp [World.setCell, Array.getElem?_modify, hout]
  refine ⟨Hl, hR, ?_, ⟨key.inn, key.inl, key.out, key.lrow, key.crow, key.bel.drew, hno, hnl, h.vlt, h.gg, h.hg⟩⟩
  have hgb := (hg.block g (lt_of_heap h.pr.blk) (fun e => by injection e with e; omega)).trans h.pr.blk
  exact (cell_h hgb 2 rfl : World.cell? (((W.setCell ⟨go, 0, none⟩ (.slice Al s.left.length capl)).setCell ⟨go, 1, none⟩ (.int .i64 (s.ship : Int))).setCell ⟨go, 3, none⟩ (.int .i64 (s.ship : Int))) ⟨g, 2, none⟩ = _)
end
end Go.Proofs.YtihcmifikbkbcaaGreat

/- Offers applied one after the other. -/
namespace Go.Proofs.YtihcmifikbkbcaaGreat
set_option linter.unusedVariables false
open Go.RowKit
def φP11 (S : Nat) (vc : Value) (q gd g n : Nat) (d : OfD) (i : Nat) (v : Value) (w : World) : Prop :=
  match i with
  | 0 => v = .pointer (some ⟨q, 2, none⟩)
  | 1 => v = vc
  | 2 => v = .pointer (some ⟨gd, 0, none⟩)
  | 3 => v = .string d.key
  | 4 => v = .pointer (some ⟨g, 0, none⟩)
  | 5 => v = .agg #[.string d.key, .int .i64 d.kind, .int .i64 d.a, .int .i64 d.b, .slice d.ta d.tags.length d.tc, .int .i64 d.least, .int .i64 d.most, .string d.group, .bool d.alone, .int .i64 d.order, .int .i64 d.first, .int .i64 d.last]
  | 6 => v = .int .i64 (n : Nat)
  | 7 => v = .agg #[.string d.key, .int .i64 (n : Nat)]
  | 8 => TmpS S v #[.string d.key, .int .i64 (n : Nat)] 44 w
  | 9 => True
  | 10 => v = .pointer (some ⟨q, 2, none⟩)
  | _ => True
theorem φP11_mono {W0 : World} {vc : Value} {q gd g n : Nat} {d : OfD} (i : Nat) (x : Value) (w w' : World) (e : RowsE W0 w w') (h : φP11 W0.heap.size vc q gd g n d i x w) : φP11 W0.heap.size vc q gd g n d i x w' := by
  match i, h with
  | 0, h => exact h
  | 1, h => exact h
  | 2, h => exact h
  | 3, h => exact h
  | 4, h => exact h
  | 5, h => exact h
  | 6, h => exact h
  | 7, h => exact h
  | 8, h => exact TmpS.mono e h
  | 9, h => exact h
  | 10, h => exact h
  | i + 11, h => exact trivial
def φP5 (S : Nat) (vl : Value) (c m : Int) (g g7 z : Nat) (i : Nat) (v : Value) (w : World) : Prop :=
  match i with
  | 0 => v = .pointer (some ⟨g, 0, none⟩)
  | 1 => v = .pointer (some ⟨g, 0, none⟩)
  | 2 => v = .pointer (some ⟨g, 0, none⟩)
  | 3 => v = .pointer (some ⟨g, 2, none⟩)
  | 4 => v = vl
  | 5 => v = .pointer (some ⟨g7, 1, none⟩)
  | 6 => v = .int .i64 c
  | 7 => v = .pointer (some ⟨g7, 2, none⟩)
  | 8 => v = .int .i64 m
  | 9 => v = .int .i64 (z : Nat)
  | 10 => TmpS S v #[.int .i64 (z : Nat)] 3 w
  | 11 => True
  | 12 => v = .pointer (some ⟨g, 0, none⟩)
  | 13 => v = .pointer (some ⟨g, 2, none⟩)
  | _ => True
theorem φP5_mono {W0 : World} {vl : Value} {c m : Int} {g g7 z : Nat} (i : Nat) (x : Value) (w w' : World) (e : RowsE W0 w w') (h : φP5 W0.heap.size vl c m g g7 z i x w) : φP5 W0.heap.size vl c m g g7 z i x w' := by
  match i, h with
  | 0, h => exact h
  | 1, h => exact h
  | 2, h => exact h
  | 3, h => exact h
  | 4, h => exact h
  | 5, h => exact h
  | 6, h => exact h
  | 7, h => exact h
  | 8, h => exact h
  | 9, h => exact h
  | 10, h => exact TmpS.mono e h
  | 11, h => exact h
  | 12, h => exact h
  | 13, h => exact h
  | i + 14, h => exact trivial
set_option maxHeartbeats 8000000 in
set_option maxRecDepth 100000 in
theorem price_any (H : Frz) (A : Option Addr) (cap : Nat) (ds : List OfD) (Ab : Option Addr) (capb : Nat) (xs : List ItD) (ship : Nat) (w : World) (hH : H.In w) (hR : Rw H A 12 fOf ds) (hds : ∀ d ∈ ds, OfIn H d ∧ OfOk d) (hl : ds.length ≤ 12)
    (hRx : Rw H Ab 4 fIt xs) (hxs : ∀ x ∈ xs, ItIn H x) (hbd : ItBd xs) (hxl : xs.length ≤ 19) (hsh : ship ≤ 1000000000000) :
    Calls Tryz.prog 32 #[.slice A ds.length cap, .agg #[.slice Ab xs.length capb, .int .i64 (ship : Int)]] w fun e w' => (∃ vl vc, e = .returned (.agg #[vl, .int .i64 ((applyAll xs (ordO ds) (startS xs ship)).ship : Nat), vc, .int .i64 ((applyAll xs (ordO ds) (startS xs ship)).ship + (applyAll xs (ordO ds) (startS xs ship)).left.sum : Nat)]) ∧
      Orow w' w.heap.size 3 1 fN vl (applyAll xs (ordO ds) (startS xs ship)).left ∧ Orow w' w.heap.size 44 2 fTk vc (takenAll xs (ordO ds) (startS xs ship)) ∧ apart vl vc) ∧ Below w.heap.size w w' := by
  obtain ⟨i0, hi0, hz0, hz1, hz2⟩ := info_parts infoInt
  obtain ⟨it, hit, ht0, ht1, ht2⟩ := info_parts infoTk
  obtain ⟨H1, hle1, hb1, hr1, hin1⟩ : ∃ H1 : Frz, H.Le H1 ∧ H1 w.heap.size = some (.cells #[.slice Ab xs.length capb, .int .i64 (ship : Int)] 30 (0, 0)) ∧ H1 (w.heap.size + 1) = some (.cells #[.slice none 0 0, .int .i64 0, .slice none 0 0, .int .i64 0] 35 (0, 0)) ∧ H1.In ((w.alloc (.cells #[.slice Ab xs.length capb, .int .i64 (ship : Int)] 30)).alloc (.cells #[.slice none 0 0, .int .i64 0, .slice none 0 0, .int .i64 0] 35)) := by
    obtain ⟨Ha, la, ea, ia⟩ := hH.put (.cells #[.slice Ab xs.length capb, .int .i64 (ship : Int)] 30)
    obtain ⟨Hb, lb, eb, ib⟩ := ia.put (.cells #[.slice none 0 0, .int .i64 0, .slice none 0 0, .int .i64 0] 35)
    have e2 : (w.alloc (.cells #[.slice Ab xs.length capb, .int .i64 (ship : Int)] 30)).heap.size = w.heap.size + 1 := by simp
    rw [e2] at eb
    exact ⟨Hb, la.trans lb, lb _ _ ea, eb, ib⟩
  have hno : ∀ b, w.heap.size + 1 + 1 ≤ b → H1 b = none := fun b hb => hin1.none_ (by simpa using hb)
  have J0 : Hid (PrB H1 w (w.heap.size + 1 + 1) Ab capb xs (ship : Int) ship (.slice none 0 0) ((startS xs ship).left.take 0) (((w.alloc (.cells #[.slice Ab xs.length capb, .int .i64 (ship : Int)] 30)).alloc (.cells #[.slice none 0 0, .int .i64 0, .slice none 0 0, .int .i64 0] 35)).alloc (.cells #[.slice Ab xs.length capb, .int .i64 (ship : Int), .slice none 0 0, .int .i64 (ship : Int)] 120))) := by
    refine ⟨hin1.alloc _, (new2 _ _).trans ((new1 _).mono (by simp; omega)), ?_, Orow.nil _ _ _ _ _, hno, by omega⟩
    have := heap_alloc_new ((w.alloc (.cells #[.slice Ab xs.length capb, .int .i64 (ship : Int)] 30)).alloc (.cells #[.slice none 0 0, .int .i64 0, .slice none 0 0, .int .i64 0] 35)) (.cells #[.slice Ab xs.length capb, .int .i64 (ship : Int), .slice none 0 0, .int .i64 (ship : Int)] 120)
    simpa using this
  have HB1 := Lib.hid hb1
  have HR1 := Lib.hid hr1
  have HR := Lib.hid (hR.le hle1)
  have HRX := Lib.hid (hRx.le hle1)
  have HDS : Hid (∀ d ∈ ds, OfIn H1 d ∧ OfOk d) := fun d hd => ⟨(hds d hd).1.le hle1, (hds d hd).2⟩
  have HXS : Hid (∀ x ∈ xs, ItIn H1 x) := fun x hx => (hxs x hx).le hle1
  have HBD := Lib.hid hbd
  have HSL : Hid ((startS xs ship).left.length = xs.length) := by show _ = _; simp [startS]
  have HSB : Hid (∀ z ∈ (startS xs ship).left, z ≤ 1000000000) := by
    intro z hz
    obtain ⟨x, hx, rfl⟩ := List.mem_map.1 hz
    have h := HBD.out x hx
    have := mul_bd h.1 h.2.1 h.2.2.1 h.2.2.2
    omega
  clear hH hR hds hRx hxs hbd hin1 hb1 hr1 hle1 hno
  go_enter Tryz.func32, Tryz.ntmps32
  go_upto_region 2 with (fail)
  generalize ((w.alloc (.cells #[.slice Ab xs.length capb, .int .i64 (ship : Int)] 30)).alloc (.cells #[.slice none 0 0, .int .i64 0, .slice none 0 0, .int .i64 0] 35)).alloc (.cells #[.slice Ab xs.length capb, .int .i64 (ship : Int), .slice none 0 0, .int .i64 (ship : Int)] 120) = W1 at *
  have hk := J0.out.inn _ _ HB1.out
  have p0 : W1.cell? ⟨w.heap.size, 0, none⟩ = some (.slice Ab xs.length capb) := cell_h hk 0 rfl
  clear hk
  go_wp2_with fail
  clear p0
  go_loopw [21] (fun t wr => ∃ (i : Nat) (vl : Value), i ≤ xs.length ∧ t = .int .i64 i ∧ Hid (PrB H1 w (w.heap.size + 1 + 1) Ab capb xs (ship : Int) ship vl ((startS xs ship).left.take i) wr)) (fun t _ => xs.length - (intOf t).toNat)
  case atStart => exact ⟨0, _, by omega, rfl, J0⟩
  case round =>
    obtain ⟨i, vl, hi, rfl, J⟩ := hrel
    clear J0
    by_cases hlt : i < xs.length
    · have hil : i < (startS xs ship).left.length := by rw [HSL.out]; exact hlt
      obtain ⟨bx, offx, hA, _, hcx⟩ := HRX.out.at_ J.out.inn hlt (by omega)
      have x0 : wr.cell? ⟨bx, offx + i * 4, none⟩ = some (.string xs[i].key) := hcx 0 (by omega)
      have x1 : wr.cell? ⟨bx, offx + i * 4 + 1, none⟩ = some (.int .i64 xs[i].cents) := hcx 1 (by omega)
      have x2 : wr.cell? ⟨bx, offx + i * 4 + 2, none⟩ = some (.int .i64 xs[i].many) := hcx 2 (by omega)
      have x3 : wr.cell? ⟨bx, offx + i * 4 + 3, none⟩ = some (.slice xs[i].ta xs[i].tags.length xs[i].tc) := hcx 3 (by omega)
      have hib := HBD.out _ (List.getElem_mem hlt)
      have hmb := mul_bd hib.1 hib.2.1 hib.2.2.1 hib.2.2.2
      have HTK : Hid ((startS xs ship).left.take (i + 1) = (startS xs ship).left.take i ++ [(xs[i].cents * xs[i].many).toNat]) := by
        show _ = _
        rw [List.take_succ_eq_append_getElem hil]
        simp [startS]
      have hlt2 : (i : Int) < xs.length := by omega
      have hlf : ((startS xs ship).left.take i).length = i := by rw [List.length_take]; omega
      subst hA
      clear hcx hib hil
      obtain ⟨z, hz⟩ := Int.eq_ofNat_of_zero_le hmb.1
      rw [hz, Int.toNat_natCast] at HTK
      have hmw : IntKind.i64.wrap (xs[i].cents * xs[i].many) = (z : Int) := by rw [hz]; exact IntWalk.i64_in _ (by omega)
      clear hmb hz
      generalize (startS xs ship).left.take i = lf at *
      generalize hlf2 : (startS xs ship).left.take (i + 1) = lf2 at HTK
      have HLF2 := Lib.hid hlf2
      clear hlf2
      generalize xs[i] = x at *
      have c7 := heap_alloc_new wr (.cells #[.string x.key, .int .i64 x.cents, .int .i64 x.many, .slice x.ta x.tags.length x.tc] 42)
      have J1 := Lib.hid (J.out.call (new1 (.cells #[.string x.key, .int .i64 x.cents, .int .i64 x.many, .slice x.ta x.tags.length x.tc] 42)))
      have C7 := Lib.hid c7
      have hg7 : w.heap.size + 1 + 1 < wr.heap.size := lt_of_heap J.out.blk
      have HV7 : Hid (∀ b, vl.ownBlock = some b → b < wr.heap.size) := fun b e => (Orow.lt J.out.lrow e).2
      clear J c7
      go_upto_region 5 with (fail)
      generalize wr.alloc (.cells #[.string x.key, .int .i64 x.cents, .int .i64 x.many, .slice x.ta x.tags.length x.tc] 42) = W0 at *
      clear x0 x1 x2 x3
      generalize wr.heap.size = g7 at *
      have HSZ : Hid (w.heap.size + 1 + 1 + 1 ≤ W0.heap.size) := lt_of_heap J1.out.blk
      have HROWS : Hid (∀ t ∈ tsPb vl (w.heap.size + 1 + 1) lf.length (cellsOf 1 fN lf) (cellsOf 1 fN lf ++ [.int .i64 (z : Nat)]), W0.ownsRow t.B t.T t.k t.v t.n t.xs) := by
        intro t ht
        simp only [tsPb, List.mem_cons, List.not_mem_nil, or_false] at ht
        subst ht
        exact J1.out.lrow.own
      have HAPT : Hid ((tsPb vl (w.heap.size + 1 + 1) lf.length (cellsOf 1 fN lf) (cellsOf 1 fN lf ++ [.int .i64 (z : Nat)])).Pairwise fun t u => apart t.v u.v) := by
        show List.Pairwise _ _
        simp [tsPb]
      have HLT0 : Hid (∀ g, vl.ownBlock = some g → g < W0.heap.size) := fun g hg => (Orow.lt J1.out.lrow hg).2
      have HJI : Hid (∀ W L a, RowsJ W0 (tsPb vl (w.heap.size + 1 + 1) lf.length (cellsOf 1 fN lf) (cellsOf 1 fN lf ++ [.int .i64 (z : Nat)])) L a W → W.cell? ⟨w.heap.size + 1 + 1, 2, none⟩ = some vl ∧ W.cell? ⟨g7, 1, none⟩ = some (.int .i64 x.cents) ∧ W.cell? ⟨g7, 2, none⟩ = some (.int .i64 x.many)) := fun W L a h => by
        have e1 := (h.keep _ (lt_of_heap J1.out.blk) (fun t ht c => by
          simp only [tsPb, List.mem_cons, List.not_mem_nil, or_false] at ht
          subst ht
          have := (Orow.lt J1.out.lrow c).1
          omega)).trans J1.out.blk
        have e2 := (h.keep _ (lt_of_heap C7.out) (fun t ht c => by
          simp only [tsPb, List.mem_cons, List.not_mem_nil, or_false] at ht
          subst ht
          have := HV7.out _ c
          omega)).trans C7.out
        exact ⟨cell_h e1 2 rfl, cell_h e2 1 rfl, cell_h e2 2 rfl⟩
      refine wp_region_concV 14 90 (φP5 W0.heap.size vl x.cents x.many (w.heap.size + 1 + 1) g7 z) (RowsJ W0 (tsPb vl (w.heap.size + 1 + 1) lf.length (cellsOf 1 fN lf) (cellsOf 1 fN lf ++ [.int .i64 (z : Nat)]))) (RowsE W0) (by kernel_rfl) (by kernel_rfl) (by rfl) (RowsJ.start HROWS.out HAPT.out _ _) (fun i x w w' _ e h => φP5_mono i x w w' e h) (fun i x w hi e _ => absurd e (by have hcs : i = 0 ∨ i = 1 ∨ i = 2 ∨ i = 3 ∨ i = 4 ∨ i = 5 ∨ i = 6 ∨ i = 7 ∨ i = 8 ∨ i = 9 ∨ i = 10 ∨ i = 11 ∨ i = 12 ∨ i = 13 := (by omega); rcases hcs with rfl | rfl | rfl | rfl | rfl | rfl | rfl | rfl | rfl | rfl | rfl | rfl | rfl | rfl <;> decide)) ?_ ?_
      · intro n o hn ho a W2 L hr hsN hLs hJ hkn
        replace hsN : a.tmps.size = 90 := hsN
        have hcs : n = 0 ∨ n = 1 ∨ n = 2 ∨ n = 3 ∨ n = 4 ∨ n = 5 ∨ n = 6 ∨ n = 7 ∨ n = 8 ∨ n = 9 ∨ n = 10 ∨ n = 11 ∨ n = 12 ∨ n = 13 := by omega
        rcases hcs with rfl | rfl | rfl | rfl | rfl | rfl | rfl | rfl | rfl | rfl | rfl | rfl | rfl | rfl
        · obtain rfl := Option.some.inj ho
          refine OpV.mono (R := fun v w' => φP5 W0.heap.size vl x.cents x.many (w.heap.size + 1 + 1) g7 z 0 v w' ∧ Below W2.heap.size W2 w') ?_ (fun v w' h => ⟨h.1, hJ.step h.2 (rows_ne (li := [11]) (ls := [36]) rfl rfl (by decide) (by decide)) v, RowsE.of h.2⟩)
          exact ⟨hkn 5 (by decide), Below.refl _ _⟩
        · obtain rfl := Option.some.inj ho
          refine OpV.mono (R := fun v w' => φP5 W0.heap.size vl x.cents x.many (w.heap.size + 1 + 1) g7 z 1 v w' ∧ Below W2.heap.size W2 w') ?_ (fun v w' h => ⟨h.1, hJ.step h.2 (rows_ne (li := [11]) (ls := [36]) rfl rfl (by decide) (by decide)) v, RowsE.of h.2⟩)
          exact ⟨hkn 5 (by decide), Below.refl _ _⟩
        · obtain rfl := Option.some.inj ho
          refine OpV.mono (R := fun v w' => φP5 W0.heap.size vl x.cents x.many (w.heap.size + 1 + 1) g7 z 2 v w' ∧ Below W2.heap.size W2 w') ?_ (fun v w' h => ⟨h.1, hJ.step h.2 (rows_ne (li := [11]) (ls := [36]) rfl rfl (by decide) (by decide)) v, RowsE.of h.2⟩)
          have h0 := slotv (hkn 26 (by decide) : a.tmps.getD 26 undef = .pointer (some ⟨w.heap.size + 1 + 1, 0, none⟩))
          clear hkn ho
          simp only [OpV, execOp]
          simp [go_sem, h0]
          first | exact ⟨rfl, Below.refl _ _⟩ | exact Below.refl _ _
        · obtain rfl := Option.some.inj ho
          refine OpV.mono (R := fun v w' => φP5 W0.heap.size vl x.cents x.many (w.heap.size + 1 + 1) g7 z 3 v w' ∧ Below W2.heap.size W2 w') ?_ (fun v w' h => ⟨h.1, hJ.step h.2 (rows_ne (li := [11]) (ls := [36]) rfl rfl (by decide) (by decide)) v, RowsE.of h.2⟩)
          have h0 := slotv (hkn 27 (by decide) : a.tmps.getD 27 undef = .pointer (some ⟨w.heap.size + 1 + 1, 0, none⟩))
          clear hkn ho
          simp only [OpV, execOp]
          simp [go_sem, h0]
          first | exact ⟨rfl, Below.refl _ _⟩ | exact Below.refl _ _
        · obtain rfl := Option.some.inj ho
          refine OpV.mono (R := fun v w' => φP5 W0.heap.size vl x.cents x.many (w.heap.size + 1 + 1) g7 z 4 v w' ∧ Below W2.heap.size W2 w') ?_ (fun v w' h => ⟨h.1, hJ.step h.2 (rows_ne (li := [11]) (ls := [36]) rfl rfl (by decide) (by decide)) v, RowsE.of h.2⟩)
          have h0 := slotv (hkn 28 (by decide) : a.tmps.getD 28 undef = .pointer (some ⟨w.heap.size + 1 + 1, 2, none⟩))
          have hcc := (HJI.out W2 _ _ hJ).1
          clear hkn ho
          simp only [OpV, execOp]
          simp [go_sem, h0, hcc]
          first | exact ⟨rfl, Below.refl _ _⟩ | exact Below.refl _ _
        · obtain rfl := Option.some.inj ho
          refine OpV.mono (R := fun v w' => φP5 W0.heap.size vl x.cents x.many (w.heap.size + 1 + 1) g7 z 5 v w' ∧ Below W2.heap.size W2 w') ?_ (fun v w' h => ⟨h.1, hJ.step h.2 (rows_ne (li := [11]) (ls := [36]) rfl rfl (by decide) (by decide)) v, RowsE.of h.2⟩)
          have h0 := slotv (hkn 7 (by decide) : a.tmps.getD 7 undef = .pointer (some ⟨g7, 0, none⟩))
          clear hkn ho
          simp only [OpV, execOp]
          simp [go_sem, h0]
          first | exact ⟨rfl, Below.refl _ _⟩ | exact Below.refl _ _
        · obtain rfl := Option.some.inj ho
          refine OpV.mono (R := fun v w' => φP5 W0.heap.size vl x.cents x.many (w.heap.size + 1 + 1) g7 z 6 v w' ∧ Below W2.heap.size W2 w') ?_ (fun v w' h => ⟨h.1, hJ.step h.2 (rows_ne (li := [11]) (ls := [36]) rfl rfl (by decide) (by decide)) v, RowsE.of h.2⟩)
          have h0 := slotv (hkn 30 (by decide) : a.tmps.getD 30 undef = .pointer (some ⟨g7, 1, none⟩))
          have hcc := (HJI.out W2 _ _ hJ).2.1
          clear hkn ho
          simp only [OpV, execOp]
          simp [go_sem, h0, hcc]
          first | exact ⟨rfl, Below.refl _ _⟩ | exact Below.refl _ _
        · obtain rfl := Option.some.inj ho
          refine OpV.mono (R := fun v w' => φP5 W0.heap.size vl x.cents x.many (w.heap.size + 1 + 1) g7 z 7 v w' ∧ Below W2.heap.size W2 w') ?_ (fun v w' h => ⟨h.1, hJ.step h.2 (rows_ne (li := [11]) (ls := [36]) rfl rfl (by decide) (by decide)) v, RowsE.of h.2⟩)
          have h0 := slotv (hkn 7 (by decide) : a.tmps.getD 7 undef = .pointer (some ⟨g7, 0, none⟩))
          clear hkn ho
          simp only [OpV, execOp]
          simp [go_sem, h0]
          first | exact ⟨rfl, Below.refl _ _⟩ | exact Below.refl _ _
        · obtain rfl := Option.some.inj ho
          refine OpV.mono (R := fun v w' => φP5 W0.heap.size vl x.cents x.many (w.heap.size + 1 + 1) g7 z 8 v w' ∧ Below W2.heap.size W2 w') ?_ (fun v w' h => ⟨h.1, hJ.step h.2 (rows_ne (li := [11]) (ls := [36]) rfl rfl (by decide) (by decide)) v, RowsE.of h.2⟩)
          have h0 := slotv (hkn 32 (by decide) : a.tmps.getD 32 undef = .pointer (some ⟨g7, 2, none⟩))
          have hcc := (HJI.out W2 _ _ hJ).2.2
          clear hkn ho
          simp only [OpV, execOp]
          simp [go_sem, h0, hcc]
          first | exact ⟨rfl, Below.refl _ _⟩ | exact Below.refl _ _
        · obtain rfl := Option.some.inj ho
          refine OpV.mono (R := fun v w' => φP5 W0.heap.size vl x.cents x.many (w.heap.size + 1 + 1) g7 z 9 v w' ∧ Below W2.heap.size W2 w') ?_ (fun v w' h => ⟨h.1, hJ.step h.2 (rows_ne (li := [11]) (ls := [36]) rfl rfl (by decide) (by decide)) v, RowsE.of h.2⟩)
          have h0 := slotv (hkn 31 (by decide) : a.tmps.getD 31 undef = .int .i64 x.cents)
          have h1 := slotv (hkn 33 (by decide) : a.tmps.getD 33 undef = .int .i64 x.many)
          clear hkn ho
          simp only [OpV, execOp]
          simp [go_sem, h0, h1, hmw]
          first | exact ⟨rfl, Below.refl _ _⟩ | exact Below.refl _ _
        · obtain rfl := Option.some.inj ho
          refine OpV.mono (R := fun v w' => φP5 W0.heap.size vl x.cents x.many (w.heap.size + 1 + 1) g7 z 10 v w' ∧ Below W2.heap.size W2 w') ?_ (fun v w' h => ⟨h.1, hJ.step h.2 (rows_ne (li := [11]) (ls := [36]) rfl rfl (by decide) (by decide)) v, RowsE.of h.2⟩)
          have h0 := slotv (hkn 34 (by decide) : a.tmps.getD 34 undef = .int .i64 (z : Nat))
          clear hkn ho
          simp only [OpV, execOp]
          simp [go_sem, h0]
          exact ⟨⟨W2.heap.size, rfl, hJ.size, heap_alloc_new _ _⟩, new1 _⟩
        · obtain rfl := Option.some.inj ho
          have h1 := slotv (hkn 29 (by decide) : a.tmps.getD 29 undef = vl)
          obtain ⟨b, h2, hb0, hh⟩ : TmpS W0.heap.size (a.tmps.getD 35 undef) #[.int .i64 (z : Nat)] 3 W2 := hkn 35 (by decide)
          replace h2 := slotv h2
          refine OpV.mono (hJ.app (t := ⟨11, 36, vl, w.heap.size + 1 + 1 + 1, 3, 1, lf.length, cellsOf 1 fN lf, lf.length + 1, cellsOf 1 fN lf ++ [.int .i64 z]⟩) (by simp [tsPb]) rfl (ready_not hr (by show (11 : Nat) < L.size; rw [hLs]; decide)) (by show (11 : Nat) < L.size; rw [hLs]; decide) (by show (36 : Nat) < a.tmps.size; rw [hsN]; decide) (rows_other (li := [11]) (ls := [36]) rfl rfl (by decide) (by decide) (by simp [tsPb])) (nodup_of_map (f := RowT.i) (show ([11] : List Nat).Nodup by decide)) HLT0.out (.tmp 29) (.tmp 35) 22 rfl i0 (.int .i64 0) 8 Tryz.underlying22 hi0 hz0 hz1 hz2 rfl (show (0 : Nat) < 1 by decide) (by simpa [Act.eval, tsPb] using h1) b #[.int .i64 z] 3 (by simpa [Act.eval] using h2) hh rfl (by simp [Value.oneCell']) rfl rfl (by show lf.length ≤ _; omega) (by decide) (by have := HSZ.out; show w.heap.size + 1 + 1 + 1 ≤ _; omega)) (fun v w' h => ⟨trivial, h.1, h.2⟩)
        · obtain rfl := Option.some.inj ho
          refine OpV.mono (R := fun v w' => φP5 W0.heap.size vl x.cents x.many (w.heap.size + 1 + 1) g7 z 12 v w' ∧ Below W2.heap.size W2 w') ?_ (fun v w' h => ⟨h.1, hJ.step h.2 (rows_ne (li := [11]) (ls := [36]) rfl rfl (by decide) (by decide)) v, RowsE.of h.2⟩)
          have h0 := slotv (hkn 25 (by decide) : a.tmps.getD 25 undef = .pointer (some ⟨w.heap.size + 1 + 1, 0, none⟩))
          clear hkn ho
          simp only [OpV, execOp]
          simp [go_sem, h0]
          first | exact ⟨rfl, Below.refl _ _⟩ | exact Below.refl _ _
        · obtain rfl := Option.some.inj ho
          refine OpV.mono (R := fun v w' => φP5 W0.heap.size vl x.cents x.many (w.heap.size + 1 + 1) g7 z 13 v w' ∧ Below W2.heap.size W2 w') ?_ (fun v w' h => ⟨h.1, hJ.step h.2 (rows_ne (li := [11]) (ls := [36]) rfl rfl (by decide) (by decide)) v, RowsE.of h.2⟩)
          have h0 := slotv (hkn 37 (by decide) : a.tmps.getD 37 undef = .pointer (some ⟨w.heap.size + 1 + 1, 0, none⟩))
          clear hkn ho
          simp only [OpV, execOp]
          simp [go_sem, h0]
          first | exact ⟨rfl, Below.refl _ _⟩ | exact Below.refl _ _
      · intro yv W9 L9 hL9 hW9 hgt hφ
        obtain ⟨k1, k2, hn⟩ := J1.out.next hW9 (hL9 11 (by decide)) (hgt 11 36 rfl)
        have J3 := Lib.hid hn
        have hφ13 : yv 13 = .pointer (some ⟨w.heap.size + 1 + 1, 2, none⟩) := by
          rcases hφ 13 (by decide) with h | h
          · exact h
          · exact absurd h.1 (by decide)
        clear hW9 hgt hφ hL9 HROWS HAPT HJI J1 HV7 hn
        simp only [List.drop_succ_cons, List.drop_zero, List.take_succ_cons, List.take_zero, putAll, Nat.reduceAdd, hφ13]
        clear hφ13
        generalize yv 11 = z11 at *
        obtain ⟨A11, c11, hv, -⟩ := J3.out.lrow.slice
        rw [show (lf ++ [z]).length = i + 1 from by simp [hlf]] at hv
        subst hv
        rw [← HTK.out] at J3
        go_wp2_with fail
        go_roundw
        case rel => exact ⟨i + 1, _, by omega, by go_num, by rw [HLF2.out]; exact J3⟩
        case measure => simp [intOf]; omega
    · have hie : i = xs.length := by omega
      subst hie
      have hJ := J.out
      rw [List.take_of_length_le (by rw [HSL.out]; exact Nat.le_refl _)] at hJ
      have hout := heap_alloc_new wr (.cells #[.slice none 0 0, .int .i64 0, .slice none 0 0, .int .i64 0] 35)
      have hJ2 := hJ.call (new1 (.cells #[.slice none 0 0, .int .i64 0, .slice none 0 0, .int .i64 0] 35))
      have hvlt : ∀ b, vl.ownBlock = some b → b < wr.heap.size := fun b e => (Orow.lt hJ.lrow e).2
      have hgg : w.heap.size + 1 + 1 < wr.heap.size := lt_of_heap hJ.blk
      have hws : (wr.alloc (.cells #[.slice none 0 0, .int .i64 0, .slice none 0 0, .int .i64 0] 35)).heap.size = wr.heap.size + 1 := by simp
      have HO := Lib.hid (ordered_any H1 A cap ds (wr.alloc (.cells #[.slice none 0 0, .int .i64 0, .slice none 0 0, .int .i64 0] 35)) hJ2.inn HR.out hl)
      have HPR : Hid (PrW H1 (w.heap.size + 1 + 1) Ab capb xs (ship : Int) vl (startS xs ship) (wr.alloc (.cells #[.slice none 0 0, .int .i64 0, .slice none 0 0, .int .i64 0] 35))) :=
        ⟨hJ2.inn, hJ2.blk, hJ2.lrow, HRX.out, HXS.out, HSL.out.symm, by rw [HSL.out]; exact hxl, HSB.out, hsh, hJ2.no⟩
      have HOUT := Lib.hid hout
      have HBEL := Lib.hid hJ2.bel
      have HVLT := Lib.hid hvlt
      clear J hJ hJ2 hout hvlt
      go_upto_region 8 with (fail)
      generalize wr.alloc (.cells #[.slice none 0 0, .int .i64 0, .slice none 0 0, .int .i64 0] 35) = W1 at *
      generalize wr.heap.size = go_ at *
      go_wp2_with fail
      refine HO.out.mono ?_
      rintro e W2 ⟨⟨v, rfl, hO⟩, hb⟩
      have hlen : (ordO ds).length = ds.length := (ordO_perm ds).length_eq
      have hmem : ∀ d ∈ ordO ds, OfIn H1 d ∧ OfOk d := fun d hd => HDS.out d ((ordO_perm ds).mem_iff.1 hd)
      obtain ⟨As, caps_, Hs, hvs, hles, q1, q2, hRs, q3⟩ := Orow.freezeN hO Frz.empty
      have hns : ∀ b, b < W1.heap.size → Hs b = none := fun b hb => by rw [q3 b (fun e => by have := (Orow.lt hO e).1; omega)]; rfl
      have J0 : Hid (PrC H1 Hs w (w.heap.size + 1 + 1) go_ Ab capb xs (ship : Int) vl (applyAll xs ((ordO ds).take 0) (startS xs ship)) (.slice none 0 0) (.slice none 0 0) (takenAll xs ((ordO ds).take 0) (startS xs ship)) W2) :=
        ⟨HPR.out.below hb, (hb.block _ (lt_of_heap HOUT.out)).trans HOUT.out, Orow.nil _ _ _ _ _, HBEL.out.trans (hb.mono HBEL.out.size), q1 (Frz.In.empty _), fun b h => hns b (by omega), fun b e => (by cases e), HVLT.out, hgg, by omega⟩
      have HRS := Lib.hid hRs
      have HMEM := Lib.hid hmem
      subst hvs
      clear hO hb hmem q1 q2 hRs q3 hns HO HPR HOUT HBEL HVLT hles
      generalize hod_ : ordO ds = od at *
      have HOD := Lib.hid hod_
      clear hod_
      generalize hs0_ : startS xs ship = s0 at *
      have HS0 := Lib.hid hs0_
      clear hs0_
      have hod : od.length ≤ 12 := by omega
      go_wp2_with fail
      go_loopw [43] (fun t wr => ∃ (i : Nat) (vc : Value), i ≤ od.length ∧ t = .int .i64 i ∧ Hid (PrC H1 Hs w (w.heap.size + 1 + 1) go_ Ab capb xs (ship : Int) vl (applyAll xs (od.take i) s0) vc vc (takenAll xs (od.take i) s0) wr)) (fun t _ => od.length - (intOf t).toNat)
      case atStart => exact ⟨0, _, by omega, rfl, J0⟩
      case round =>
        obtain ⟨i, vc, hi, rfl, J⟩ := hrel
        clear J0
        by_cases hlt : i < od.length
        · obtain ⟨b, off, hA, _, hc⟩ := HRS.out.at_ J.out.ins hlt (by omega)
          subst hA
          have c0 : wr.cell? ⟨b, off + i * 12, none⟩ = some (.string od[i].key) := hc 0 (by omega)
          have c1 : wr.cell? ⟨b, off + i * 12 + 1, none⟩ = some (.int .i64 od[i].kind) := hc 1 (by omega)
          have c2 : wr.cell? ⟨b, off + i * 12 + 2, none⟩ = some (.int .i64 od[i].a) := hc 2 (by omega)
          have c3 : wr.cell? ⟨b, off + i * 12 + 3, none⟩ = some (.int .i64 od[i].b) := hc 3 (by omega)
          have c4 : wr.cell? ⟨b, off + i * 12 + 4, none⟩ = some (.slice od[i].ta od[i].tags.length od[i].tc) := hc 4 (by omega)
          have c5 : wr.cell? ⟨b, off + i * 12 + 5, none⟩ = some (.int .i64 od[i].least) := hc 5 (by omega)
          have c6 : wr.cell? ⟨b, off + i * 12 + 6, none⟩ = some (.int .i64 od[i].most) := hc 6 (by omega)
          have c7 : wr.cell? ⟨b, off + i * 12 + 7, none⟩ = some (.string od[i].group) := hc 7 (by omega)
          have c8 : wr.cell? ⟨b, off + i * 12 + 8, none⟩ = some (.bool od[i].alone) := hc 8 (by omega)
          have c9 : wr.cell? ⟨b, off + i * 12 + 9, none⟩ = some (.int .i64 od[i].order) := hc 9 (by omega)
          have c10 : wr.cell? ⟨b, off + i * 12 + 10, none⟩ = some (.int .i64 od[i].first) := hc 10 (by omega)
          have c11 : wr.cell? ⟨b, off + i * 12 + 11, none⟩ = some (.int .i64 od[i].last) := hc 11 (by omega)
          have HDD := Lib.hid (HMEM.out _ (List.getElem_mem hlt))
          have htke : od.take (i + 1) = od.take i ++ [od[i]] := List.take_succ_eq_append_getElem hlt
          have HNX : Hid (applyAll xs (od.take (i + 1)) s0 = applyS od[i] xs (applyAll xs (od.take i) s0)) := by show _ = _; rw [htke, applyAll_snoc]
          have HTN : Hid (takenAll xs (od.take (i + 1)) s0 = takenAll xs (od.take i) s0 ++ [(od[i].key, applyT od[i] xs (applyAll xs (od.take i) s0))]) := by show _ = _; rw [htke, takenAll_snoc]
          have htl : (takenAll xs (od.take i) s0).length = i := by rw [takenAll_len, List.length_take]; omega
          have hlt2 : (i : Int) < od.length := by omega
          clear hc htke
          generalize hs1 : applyAll xs (od.take (i + 1)) s0 = s1 at HNX
          generalize ht1_ : takenAll xs (od.take (i + 1)) s0 = t1 at HTN
          have HS1 := Lib.hid hs1
          have HT1 := Lib.hid ht1_
          clear hs1 ht1_
          generalize applyAll xs (od.take i) s0 = s at *
          generalize takenAll xs (od.take i) s0 = tk at *
          generalize od[i] = d at *
          have J1 := Lib.hid (J.out.below (new1 (.cells #[.string d.key, .int .i64 d.kind, .int .i64 d.a, .int .i64 d.b, .slice d.ta d.tags.length d.tc, .int .i64 d.least, .int .i64 d.most, .string d.group, .bool d.alone, .int .i64 d.order, .int .i64 d.first, .int .i64 d.last] 50)))
          have C7 := Lib.hid (heap_alloc_new wr (.cells #[.string d.key, .int .i64 d.kind, .int .i64 d.a, .int .i64 d.b, .slice d.ta d.tags.length d.tc, .int .i64 d.least, .int .i64 d.most, .string d.group, .bool d.alone, .int .i64 d.order, .int .i64 d.first, .int .i64 d.last] 50))
          have hgo : go_ < wr.heap.size := lt_of_heap J.out.out
          have HVC : Hid (∀ b, vc.ownBlock = some b → b < wr.heap.size) := fun b e => (Orow.lt J.out.crow e).2
          have hws2 : (wr.alloc (.cells #[.string d.key, .int .i64 d.kind, .int .i64 d.a, .int .i64 d.b, .slice d.ta d.tags.length d.tc, .int .i64 d.least, .int .i64 d.most, .string d.group, .bool d.alone, .int .i64 d.order, .int .i64 d.first, .int .i64 d.last] 50)).heap.size = wr.heap.size + 1 := by simp
          clear J
          go_upto_region 11 with (fail)
          generalize wr.alloc (.cells #[.string d.key, .int .i64 d.kind, .int .i64 d.a, .int .i64 d.b, .slice d.ta d.tags.length d.tc, .int .i64 d.least, .int .i64 d.most, .string d.group, .bool d.alone, .int .i64 d.order, .int .i64 d.first, .int .i64 d.last] 50) = W0 at *
          generalize wr.heap.size = gd at *
          clear c0 c1 c2 c3 c4 c5 c6 c7 c8 c9 c10 c11
          have HJ0 : Hid (∀ m a, PaJ H1 Hs w (w.heap.size + 1 + 1) go_ Ab capb xs (ship : Int) vl s d vc tk gd W0 (Array.replicate m false) a W0.drew) := by
            intro m a
            refine ⟨Nat.le_refl _, ?_, C7.out, hgo, by omega, fun b e => by have := HVC.out b e; omega, fun e => by have := HVC.out gd e; omega⟩
            rw [getD_replicate_false, getD_replicate_false]
            exact J1.out.below (Below.refl _ _).drew
          refine wp_region_concV 11 90 (φP11 W0.heap.size vc go_ gd (w.heap.size + 1 + 1) (applyT d xs s) d) (PaJ H1 Hs w (w.heap.size + 1 + 1) go_ Ab capb xs (ship : Int) vl s d vc tk gd W0) (RowsE W0) (by kernel_rfl) (by kernel_rfl) (by rfl) (HJ0.out _ _) (fun i x w w' _ e h => φP11_mono i x w w' e h) (fun i x w hi e _ => absurd e (by have hcs : i = 0 ∨ i = 1 ∨ i = 2 ∨ i = 3 ∨ i = 4 ∨ i = 5 ∨ i = 6 ∨ i = 7 ∨ i = 8 ∨ i = 9 ∨ i = 10 := (by omega); rcases hcs with rfl | rfl | rfl | rfl | rfl | rfl | rfl | rfl | rfl | rfl | rfl <;> decide)) ?_ ?_
          · intro n o hn ho a W2 L hr hsN hLs hJ hkn
            replace hsN : a.tmps.size = 90 := hsN
            have hcs : n = 0 ∨ n = 1 ∨ n = 2 ∨ n = 3 ∨ n = 4 ∨ n = 5 ∨ n = 6 ∨ n = 7 ∨ n = 8 ∨ n = 9 ∨ n = 10 := by omega
            rcases hcs with rfl | rfl | rfl | rfl | rfl | rfl | rfl | rfl | rfl | rfl | rfl
            · obtain rfl := Option.some.inj ho
              refine OpV.mono (R := fun v w' => φP11 W0.heap.size vc go_ gd (w.heap.size + 1 + 1) (applyT d xs s) d 0 v w' ∧ Below W2.heap.size W2 w') ?_ (fun v w' h => ⟨h.1, hJ.step h.2 (by decide) (by decide) (by decide) v, RowsE.of h.2⟩)
              have h0 := slotv (hkn 8 (by decide) : a.tmps.getD 8 undef = .pointer (some ⟨go_, 0, none⟩))
              clear hkn ho
              simp only [OpV, execOp]
              simp [go_sem, h0]
              first | exact ⟨rfl, Below.refl _ _⟩ | exact Below.refl _ _
            · obtain rfl := Option.some.inj ho
              refine OpV.mono (R := fun v w' => φP11 W0.heap.size vc go_ gd (w.heap.size + 1 + 1) (applyT d xs s) d 1 v w' ∧ Below W2.heap.size W2 w') ?_ (fun v w' h => ⟨h.1, hJ.step h.2 (by decide) (by decide) (by decide) v, RowsE.of h.2⟩)
              have h0 := slotv (hkn 47 (by decide) : a.tmps.getD 47 undef = .pointer (some ⟨go_, 2, none⟩))
              have hcc : W2.cell? ⟨go_, 2, none⟩ = some vc := cell_h hJ.c.out 2 rfl
              clear hkn ho
              simp only [OpV, execOp]
              simp [go_sem, h0, hcc]
              first | exact ⟨rfl, Below.refl _ _⟩ | exact Below.refl _ _
            · obtain rfl := Option.some.inj ho
              refine OpV.mono (R := fun v w' => φP11 W0.heap.size vc go_ gd (w.heap.size + 1 + 1) (applyT d xs s) d 2 v w' ∧ Below W2.heap.size W2 w') ?_ (fun v w' h => ⟨h.1, hJ.step h.2 (by decide) (by decide) (by decide) v, RowsE.of h.2⟩)
              have h0 := slotv (hkn 10 (by decide) : a.tmps.getD 10 undef = .pointer (some ⟨gd, 0, none⟩))
              clear hkn ho
              simp only [OpV, execOp]
              simp [go_sem, h0]
              first | exact ⟨rfl, Below.refl _ _⟩ | exact Below.refl _ _
            · obtain rfl := Option.some.inj ho
              refine OpV.mono (R := fun v w' => φP11 W0.heap.size vc go_ gd (w.heap.size + 1 + 1) (applyT d xs s) d 3 v w' ∧ Below W2.heap.size W2 w') ?_ (fun v w' h => ⟨h.1, hJ.step h.2 (by decide) (by decide) (by decide) v, RowsE.of h.2⟩)
              have h0 := slotv (hkn 49 (by decide) : a.tmps.getD 49 undef = .pointer (some ⟨gd, 0, none⟩))
              have hcc : W2.cell? ⟨gd, 0, none⟩ = some (.string d.key) := cell_h hJ.off 0 rfl
              clear hkn ho
              simp only [OpV, execOp]
              simp [go_sem, h0, hcc]
              first | exact ⟨rfl, Below.refl _ _⟩ | exact Below.refl _ _
            · obtain rfl := Option.some.inj ho
              refine OpV.mono (R := fun v w' => φP11 W0.heap.size vc go_ gd (w.heap.size + 1 + 1) (applyT d xs s) d 4 v w' ∧ Below W2.heap.size W2 w') ?_ (fun v w' h => ⟨h.1, hJ.step h.2 (by decide) (by decide) (by decide) v, RowsE.of h.2⟩)
              exact ⟨hkn 5 (by decide), Below.refl _ _⟩
            · obtain rfl := Option.some.inj ho
              refine OpV.mono (R := fun v w' => φP11 W0.heap.size vc go_ gd (w.heap.size + 1 + 1) (applyT d xs s) d 5 v w' ∧ Below W2.heap.size W2 w') ?_ (fun v w' h => ⟨h.1, hJ.step h.2 (by decide) (by decide) (by decide) v, RowsE.of h.2⟩)
              have h0 := slotv (hkn 10 (by decide) : a.tmps.getD 10 undef = .pointer (some ⟨gd, 0, none⟩))
              have hk := hJ.off
              have c0 := cell_h hk 0 (v := .string d.key) rfl
              have c1 := cell_h hk 1 (v := .int .i64 d.kind) rfl
              have c2 := cell_h hk 2 (v := .int .i64 d.a) rfl
              have c3 := cell_h hk 3 (v := .int .i64 d.b) rfl
              have c4 := cell_h hk 4 (v := .slice d.ta d.tags.length d.tc) rfl
              have c5 := cell_h hk 5 (v := .int .i64 d.least) rfl
              have c6 := cell_h hk 6 (v := .int .i64 d.most) rfl
              have c7 := cell_h hk 7 (v := .string d.group) rfl
              have c8 := cell_h hk 8 (v := .bool d.alone) rfl
              have c9 := cell_h hk 9 (v := .int .i64 d.order) rfl
              have c10 := cell_h hk 10 (v := .int .i64 d.first) rfl
              have c11 := cell_h hk 11 (v := .int .i64 d.last) rfl
              clear hk
              clear hkn ho
              simp only [OpV, execOp]
              simp [go_sem, h0, c0, c1, c2, c3, c4, c5, c6, c7, c8, c9, c10, c11]
              first | exact ⟨rfl, Below.refl _ _⟩ | exact Below.refl _ _
            · obtain rfl := Option.some.inj ho
              have h0 := slotv (hkn 51 (by decide) : a.tmps.getD 51 undef = .pointer (some ⟨w.heap.size + 1 + 1, 0, none⟩))
              have h1 := slotv (hkn 52 (by decide) : a.tmps.getD 52 undef = .agg #[.string d.key, .int .i64 d.kind, .int .i64 d.a, .int .i64 d.b, .slice d.ta d.tags.length d.tc, .int .i64 d.least, .int .i64 d.most, .string d.group, .bool d.alone, .int .i64 d.order, .int .i64 d.first, .int .i64 d.last])
              have hn6 := ready_not hr (by show (6 : Nat) < L.size; rw [hLs]; decide)
              have hpr := hJ.c.pr
              rw [hn6] at hpr
              simp only [Bool.false_eq_true, if_false] at hpr
              have hcc := apply_any H1 (w.heap.size + 1 + 1) Ab capb xs (ship : Int) vl s d W2 hpr HDD.out.1 HDD.out.2 HBD.out
              refine OpV.mono (R := fun v w' => v = .int .i64 (applyT d xs s : Nat) ∧ PrW H1 (w.heap.size + 1 + 1) Ab capb xs (ship : Int) vl (applyS d xs s) w' ∧ PKeep (w.heap.size + 1 + 1) vl W2 w') ?_ (fun v w' h => ⟨h.1, (hJ.call (by rw [hLs]; decide) h.2.1 h.2.2 v).1, (hJ.call (by rw [hLs]; decide) h.2.1 h.2.2 v).2⟩)
              clear hkn ho
              simp only [OpV, execOp]
              simp [go_sem, h0, h1]
              refine hcc.mono ?_
              rintro e w' ⟨rfl, hp, hk⟩
              exact ⟨_, rfl, rfl, hp, hk⟩
            · obtain rfl := Option.some.inj ho
              refine OpV.mono (R := fun v w' => φP11 W0.heap.size vc go_ gd (w.heap.size + 1 + 1) (applyT d xs s) d 7 v w' ∧ Below W2.heap.size W2 w') ?_ (fun v w' h => ⟨h.1, hJ.step h.2 (by decide) (by decide) (by decide) v, RowsE.of h.2⟩)
              have h0 := slotv (hkn 50 (by decide) : a.tmps.getD 50 undef = .string d.key)
              have h1 := slotv (hkn 53 (by decide) : a.tmps.getD 53 undef = .int .i64 (applyT d xs s : Nat))
              clear hkn ho
              simp only [OpV, execOp]
              simp [go_sem, h0, h1]
              first | exact ⟨rfl, Below.refl _ _⟩ | exact Below.refl _ _
            · obtain rfl := Option.some.inj ho
              refine OpV.mono (R := fun v w' => φP11 W0.heap.size vc go_ gd (w.heap.size + 1 + 1) (applyT d xs s) d 8 v w' ∧ Below W2.heap.size W2 w') ?_ (fun v w' h => ⟨h.1, hJ.step h.2 (by decide) (by decide) (by decide) v, RowsE.of h.2⟩)
              have h0 := slotv (hkn 54 (by decide) : a.tmps.getD 54 undef = .agg #[.string d.key, .int .i64 (applyT d xs s : Nat)])
              clear hkn ho
              simp only [OpV, execOp]
              simp [go_sem, h0]
              exact ⟨⟨W2.heap.size, rfl, hJ.size, heap_alloc_new _ _⟩, new1 _⟩
            · obtain rfl := Option.some.inj ho
              have h1 := slotv (hkn 48 (by decide) : a.tmps.getD 48 undef = vc)
              obtain ⟨b, h2, hb0, hh⟩ : TmpS W0.heap.size (a.tmps.getD 55 undef) #[.string d.key, .int .i64 (applyT d xs s : Nat)] 44 W2 := hkn 55 (by decide)
              replace h2 := slotv h2
              have hn9 := ready_not hr (by show (9 : Nat) < L.size; rw [hLs]; decide)
              have hcr := hJ.c.crow
              rw [hn9] at hcr
              simp only [Bool.false_eq_true, if_false] at hcr
              have hbig := hJ.big
              have hsz := hJ.size
              obtain ⟨v', w', hrun, o1, g1, -, at1⟩ := run_append_own_at (P := Tryz.prog) W2 (go_ + 1) 33 33 44 it (.agg #[.string ⟨#[]⟩, .int .i64 0]) 2 24 Tryz.underlying33 hit ht0 ht1 ht2 rfl (by decide) vc tk.length (cellsOf 2 fTk tk) hcr.own ⟨b, 0, none⟩ 1 1 [.string d.key, .int .i64 (applyT d xs s : Nat)] rfl (fun j u hu => (by
                rw [Addr.add_lit]
                simp only [World.cell?, hh]
                simpa using hu)) (by simp [Value.oneCell']) (by simp only [maxLen]; omega) (by omega) (by omega)
              have hoo : Orow w' (go_ + 1) 44 2 fTk v' (tk ++ [(d.key, applyT d xs s)]) := by
                show World.ownsRow _ _ _ _ _ _ _
                rw [cellsOf_snoc, List.length_append]
                exact o1
              obtain ⟨hj, he⟩ := hJ.app hn9 (by rw [hLs]; decide) (by rw [hsN]; decide) hoo g1 at1
              refine OpV.append (.tmp 48) (.tmp 55) 33 vc _ v' rfl (by simpa [Act.eval] using h1) (by simpa [Act.eval] using h2) hrun ?_
              exact ⟨trivial, hj, he⟩
            · obtain rfl := Option.some.inj ho
              refine OpV.mono (R := fun v w' => φP11 W0.heap.size vc go_ gd (w.heap.size + 1 + 1) (applyT d xs s) d 10 v w' ∧ Below W2.heap.size W2 w') ?_ (fun v w' h => ⟨h.1, hJ.step h.2 (by decide) (by decide) (by decide) v, RowsE.of h.2⟩)
              have h0 := slotv (hkn 8 (by decide) : a.tmps.getD 8 undef = .pointer (some ⟨go_, 0, none⟩))
              clear hkn ho
              simp only [OpV, execOp]
              simp [go_sem, h0]
              first | exact ⟨rfl, Below.refl _ _⟩ | exact Below.refl _ _
          · intro yv W9 L9 hL9 hW9 hgt hφ
            have hc9 := hW9.c
            rw [hL9 6 (by decide), hL9 9 (by decide), hgt 9 56 rfl] at hc9
            simp only [if_true] at hc9
            obtain ⟨k1, k2, hst⟩ := hc9.store
            rw [← HNX.out, ← HTN.out] at hst
            have J3 := Lib.hid hst
            have hφ10 : yv 10 = .pointer (some ⟨go_, 2, none⟩) := by
              rcases hφ 10 (by decide) with h | h
              · exact h
              · exact absurd h.1 (by decide)
            obtain ⟨A11, c11, hv, -⟩ := hc9.crow.slice
            rw [show (tk ++ [(d.key, applyT d xs s)]).length = i + 1 from by simp [htl]] at hv
            clear hW9 hgt hφ hL9 J1 hst hc9 HJ0 HNX HTN
            simp only [List.drop_succ_cons, List.drop_zero, List.take_succ_cons, List.take_zero, putAll, Nat.reduceAdd, hφ10]
            clear hφ10
            generalize yv 9 = z9 at *
            subst hv
            go_wp2_with fail
            go_roundw
            case rel => exact ⟨i + 1, _, by omega, by go_num, by rw [HS1.out, HT1.out]; exact J3⟩
            case measure => simp [intOf]; omega
        · have hie : i = od.length := by omega
          subst hie
          have hJ := J.out
          rw [List.take_length] at hJ
          clear J
          generalize hse_ : applyAll xs od s0 = sE at *
          generalize htk_ : takenAll xs od s0 = tk at *
          have HSE := Lib.hid hse_
          have HTKE := Lib.hid htk_
          clear hse_ htk_
          obtain ⟨Al, capl, hvl, -⟩ := hJ.pr.lrow.slice
          obtain ⟨Ac, capc, hvc, -⟩ := hJ.crow.slice
          subst hvl hvc
          have hk := hJ.pr.blk
          have p2 : wr.cell? ⟨w.heap.size + 1 + 1, 2, none⟩ = some (.slice Al sE.left.length capl) := cell_h hk 2 rfl
          have p3 : wr.cell? ⟨w.heap.size + 1 + 1, 3, none⟩ = some (.int .i64 (sE.ship : Int)) := cell_h hk 3 rfl
          have o0 : wr.cell? ⟨go_, 0, none⟩ = some (.slice none 0 0) := cell_h hJ.out 0 rfl
          have o1 : wr.cell? ⟨go_, 1, none⟩ = some (.int .i64 0) := cell_h hJ.out 1 rfl
          have o3 : wr.cell? ⟨go_, 3, none⟩ = some (.int .i64 0) := cell_h hJ.out 3 rfl
          have f0 := froz_h hJ.out 0
          have f1 := froz_h hJ.out 1
          have f3 := froz_h hJ.out 3
          have hne : ¬ w.heap.size + 1 + 1 = go_ := by have := hJ.gg; omega
          have hne2 : ¬ go_ = w.heap.size + 1 + 1 := by have := hJ.gg; omega
          clear hk
          go_upto_region 13 with (fail)
          go_region
          obtain ⟨Hl, hRl, p2', hD⟩ := hJ.fin rfl
          have J0 := Lib.hid hD
          have HRL := Lib.hid hRl
          have hls : sE.left.length ≤ 19 := hJ.pr.small
          have hsum : sE.left.sum ≤ 19000000000 := by
            have h1 := Hb.sum_le hJ.pr.bd
            have h2 : sE.left.length * 1000000000 ≤ 19 * 1000000000 := Nat.mul_le_mul_right _ hls
            omega
          have hshE := hJ.pr.sh
          have HVC : Hid (∀ b, (Value.slice Ac tk.length capc).ownBlock = some b → go_ + 1 ≤ b) := fun b e => (Orow.lt hJ.crow e).1
          generalize World.drew _ = W5 at J0 p2' ⊢
          clear hD hRl hJ p2 p3 o0 o1 o3 f0 f1 f3 hne hne2 HRS HMEM
          generalize hlf_ : sE.left = lf at *
          generalize hsh_ : sE.ship = sh at *
          have HLF := Lib.hid hlf_
          have HSHE := Lib.hid hsh_
          clear hlf_ hsh_
          go_wp2_with fail
          go_loopw [79] (fun t wr => ∃ i : Nat, i ≤ lf.length ∧ t = .int .i64 i ∧ Hid (PrD H1 Hl w (w.heap.size + 1 + 1) go_ (.slice Al lf.length capl) lf sh (.slice Ac tk.length capc) tk (sh + (lf.take i).sum) wr)) (fun t _ => lf.length - (intOf t).toNat)
          case atStart => exact ⟨0, by omega, rfl, by simpa using J0⟩
          case round =>
            obtain ⟨i, hi, rfl, J⟩ := hrel
            clear J0
            by_cases hlt : i < lf.length
            · obtain ⟨bl, offl, hAl, _, hcl⟩ := HRL.out.at_ J.out.inl hlt (by omega)
              have l0 : wr.cell? ⟨bl, offl + i, none⟩ = some (.int .i64 (lf[i] : Nat)) := by simpa [fN] using hcl 0 (by omega)
              have hs := Hb.sum_take_succ hlt
              have hs2 := Hb.sum_take_le lf (i + 1)
              obtain ⟨o3, f3, hset⟩ := J.out.set (sh + (lf.take (i + 1)).sum)
              rw [show ((sh + (lf.take (i + 1)).sum : Nat) : Int) = ((sh + (lf.take i).sum : Nat) : Int) + (lf[i] : Int) from by omega] at hset
              have J3 := Lib.hid hset
              have hlt2 : (i : Int) < lf.length := by omega
              have hbo : sh + (lf.take i).sum + lf[i] ≤ 1019000000000 := by omega
              subst hAl
              clear hcl hset J
              generalize sh + (lf.take i).sum = to_ at *
              generalize lf[i] = z at *
              go_wp2_with fail
              go_roundw
              case rel => exact ⟨i + 1, by omega, by go_num, J3⟩
              case measure => simp [intOf]; omega
            · have hie : i = lf.length := by omega
              subst hie
              rw [List.take_length] at J
              have o0 := cell_h J.out.out 0 (v := .slice Al lf.length capl) rfl
              have o1 := cell_h J.out.out 1 (v := .int .i64 (sh : Int)) rfl
              have o2 := cell_h J.out.out 2 (v := .slice Ac tk.length capc) rfl
              have o3 := cell_h J.out.out 3 (v := .int .i64 ((sh + lf.sum : Nat) : Int)) rfl
              have hr4 := J.out.inn _ _ HR1.out
              have r0 := cell_h hr4 0 (v := .slice none 0 0) rfl
              have r1 := cell_h hr4 1 (v := .int .i64 0) rfl
              have r2 := cell_h hr4 2 (v := .slice none 0 0) rfl
              have r3 := cell_h hr4 3 (v := .int .i64 0) rfl
              have f0 := froz_h hr4 0
              have f1 := froz_h hr4 1
              have f2 := froz_h hr4 2
              have f3 := froz_h hr4 3
              have HG9 : Hid (∀ v0 v1 v2 v3 : Value, wr.grownBy ((((wr.setCell ⟨w.heap.size + 1, 0, none⟩ v0).setCell ⟨w.heap.size + 1, 1, none⟩ v1).setCell ⟨w.heap.size + 1, 2, none⟩ v2).setCell ⟨w.heap.size + 1, 3, none⟩ v3) (some (w.heap.size + 1)) ∧ ((((wr.setCell ⟨w.heap.size + 1, 0, none⟩ v0).setCell ⟨w.heap.size + 1, 1, none⟩ v1).setCell ⟨w.heap.size + 1, 2, none⟩ v2).setCell ⟨w.heap.size + 1, 3, none⟩ v3).heap[w.heap.size + 1]? = some (.cells #[v0, v1, v2, v3] 35 (0, 0))) := fun v0 v1 v2 v3 =>
                ⟨⟨rfl, rfl, rfl, by simp [World.setCell], fun k hk hne => (Below.heap_setCell _ _ _ k (fun e => hne (by rw [e]))).trans ((Below.heap_setCell _ _ _ k (fun e => hne (by rw [e]))).trans ((Below.heap_setCell _ _ _ k (fun e => hne (by rw [e]))).trans (Below.heap_setCell wr _ _ k (fun e => hne (by rw [e])))))⟩, by simp [World.setCell, Array.getElem?_modify, hr4]⟩
              clear hr4
              go_wp2_with fail
              (try simp only [Exit.inBlock, Exit.then])
              obtain ⟨hg9, hh9⟩ := HG9.out (.slice Al lf.length capl) (.int .i64 (sh : Int)) (.slice Ac tk.length capc) (.int .i64 ((sh : Int) + (lf.sum : Int)))
              refine bodyPost_ret (results_cell_row rfl _ _ (w.heap.size + 1) 35 _ (0, 0) _ rfl hh9 Tryz.underlying35 rfl (by kernel_rfl)) rfl ?_
              have hl9 := J.out.lrow.far hg9 (by omega)
              have hc9 := J.out.crow.far hg9 (by omega)
              refine ⟨⟨_, _, ?_, by rw [HOD.out, HS0.out, HSE.out, HLF.out]; exact hl9.mono (by omega), by rw [HOD.out, HS0.out, HTKE.out]; exact hc9.mono (by omega), ?_⟩, J.out.bel.grown hg9 J.out.bel.size (fun q hq => by injection hq with hq; omega)⟩
              · rw [HOD.out, HS0.out, HSE.out, HLF.out, HSHE.out, Int.natCast_add]
              · cases e1 : (Value.slice Al lf.length capl).ownBlock with
                | none => exact Or.inl e1
                | some q1 =>
                  right; right
                  intro c
                  have h1 := J.out.vlt q1 e1
                  have h2 := HVC.out q1 (by rw [← c]; exact e1)
                  omega
end Go.Proofs.YtihcmifikbkbcaaGreat

/- Offers applied, if they can be. -/
namespace Go.Proofs.YtihcmifikbkbcaaGreat
set_option linter.unusedVariables false
open Go.RowKit
theorem inB_iff {l n h : Int} : inB l n h = true ↔ l ≤ n ∧ n ≤ h := by unfold inB; simp
theorem allR_at {p : Nat → Bool} {n i : Nat} (h : (List.range n).all p = true) (hi : i < n) : p i = true := List.all_eq_true.1 h i (List.mem_range.2 hi)
theorem offB_ok {ds : List OfD} {i : Nat} {d : OfD} (h : offB ds i d = true) : OfOk d := by
  unfold offB at h
  simp only [Bool.and_eq_true] at h
  obtain ⟨⟨⟨⟨⟨⟨⟨⟨⟨⟨⟨h1, h2⟩, h3⟩, h4⟩, h5⟩, h6⟩, h7⟩, h8⟩, h9⟩, h10⟩, h11⟩, h12⟩ := h
  have hk := inB_iff.1 h3
  unfold amtB at h4
  refine ⟨by omega, fun e => ?_, fun e1 e3 => ?_, fun e => ?_, inB_iff.1 h6⟩
  · rw [if_pos e] at h4
    simp only [Bool.and_eq_true] at h4
    exact inB_iff.1 h4.1
  · rw [if_neg e1, if_neg e3] at h4
    simp only [Bool.and_eq_true] at h4
    exact inB_iff.1 h4.1
  · rw [if_neg (by omega), if_pos e] at h4
    simp only [Bool.and_eq_true] at h4
    exact ⟨inB_iff.1 h4.1, inB_iff.1 h4.2⟩
theorem checkB_ok {ds : List OfD} {xs : List ItD} {ship at_ : Int} (h : checkB ds xs ship at_ = true) : (∀ d ∈ ds, OfOk d) ∧ ItBd xs ∧ 0 ≤ ship ∧ ship ≤ 1000000000000 := by
  unfold checkB at h
  simp only [Bool.and_eq_true] at h
  obtain ⟨⟨h1, h2⟩, h3⟩ := h
  unfold offersB at h1
  unfold basketB at h2
  simp only [Bool.and_eq_true] at h1 h2
  refine ⟨fun d hd => ?_, fun x hx => ?_, (inB_iff.1 h2.2).1, (inB_iff.1 h2.2).2⟩
  · obtain ⟨i, hi, rfl⟩ := List.getElem_of_mem hd
    have := allR_at h1.2 hi
    rw [offAt_at hi] at this
    exact offB_ok this
  · obtain ⟨i, hi, rfl⟩ := List.getElem_of_mem hx
    have := allR_at h2.1.2 hi
    rw [itmAt_at hi] at this
    unfold itmB at this
    simp only [Bool.and_eq_true] at this
    have k1 := inB_iff.1 this.1.1.2
    have k2 := inB_iff.1 this.1.2
    omega
theorem set4 {wr : World} {r T : Nat} {a0 a1 a2 a3 : Value} (h : wr.heap[r]? = some (.cells #[a0, a1, a2, a3] T (0, 0))) (v0 v1 v2 v3 : Value) :
    wr.grownBy ((((wr.setCell ⟨r, 0, none⟩ v0).setCell ⟨r, 1, none⟩ v1).setCell ⟨r, 2, none⟩ v2).setCell ⟨r, 3, none⟩ v3) (some r) ∧ ((((wr.setCell ⟨r, 0, none⟩ v0).setCell ⟨r, 1, none⟩ v1).setCell ⟨r, 2, none⟩ v2).setCell ⟨r, 3, none⟩ v3).heap[r]? = some (.cells #[v0, v1, v2, v3] T (0, 0)) :=
  ⟨⟨rfl, rfl, rfl, by simp [World.setCell], fun k hk hne => (Below.heap_setCell _ _ _ k (fun e => hne (by rw [e]))).trans ((Below.heap_setCell _ _ _ k (fun e => hne (by rw [e]))).trans ((Below.heap_setCell _ _ _ k (fun e => hne (by rw [e]))).trans (Below.heap_setCell wr _ _ k (fun e => hne (by rw [e])))))⟩, by simp [World.setCell, Array.getElem?_modify, h]⟩
theorem results_row_tmp {P : Program} {fn : Func} {p u : Tmp} {ty : TypeId} (h : fn.results = #[.cell p ty, .tmp u]) (tmps : Array Value) (w : World) (g : Nat) (t : TypeId) (cs : Array Value) (fr : Nat × Nat) (d : TypeDesc)
    (hp : tmps.getD p undef = .pointer (some ⟨g, 0, none⟩)) (hg : w.heap[g]? = some (.cells cs t fr))
    (hu : P.underlying ty = some d) (hd : (match d with | .struct _ | .array _ _ => true | _ => false) = true) (hi : (P.info? ty).map (·.size) = some cs.size) :
    (results fn tmps).run P w = .ok (.tuple #[.agg cs, tmps.getD u undef]) w := by
  rw [results_cell_tmp h, hp]
  simp [asAddr, run_loadVar_row w g t ty cs fr d hg hu hd hi]
def badF (xs : List ItD) (ship at_ : Int) (d : OfD) : Bool := fitsN d xs ship at_ != 0
/-- Offers that can be applied. -/
def priceOk (ds : List OfD) (xs : List ItD) (ship at_ : Int) : Bool := checkB ds xs ship at_ && togetherB ds && !anyF (badF xs ship at_) ds
def zeroPr : Value := .agg #[.slice none 0 0, .int .i64 0, .slice none 0 0, .int .i64 0]
def endS (ds : List OfD) (xs : List ItD) (ship : Int) : PrS := applyAll xs (ordO ds) (startS xs ship.toNat)
def endT (ds : List OfD) (xs : List ItD) (ship : Int) : List (ByteArray × Nat) := takenAll xs (ordO ds) (startS xs ship.toNat)
def totS (s : PrS) : Nat := s.ship + s.left.sum
/-- What price tells. -/
def PricedIn (B : Nat) (ds : List OfD) (xs : List ItD) (ship : Int) (v : Value) (w : World) : Prop :=
  ∃ vl vc, v = .agg #[vl, .int .i64 ((endS ds xs ship).ship : Nat), vc, .int .i64 (totS (endS ds xs ship) : Nat)] ∧ Orow w B 3 1 fN vl (endS ds xs ship).left ∧ Orow w B 44 2 fTk vc (endT ds xs ship) ∧ apart vl vc
theorem price_in (H : Frz) (A : Option Addr) (cap : Nat) (ds : List OfD) (Ab : Option Addr) (capb : Nat) (xs : List ItD) (ship : Int) (w : World) (hH : H.In w) (hR : Rw H A 12 fOf ds) (hds : ∀ d ∈ ds, OfIn H d ∧ OfOk d) (hl : ds.length ≤ 12)
    (hRx : Rw H Ab 4 fIt xs) (hxs : ∀ x ∈ xs, ItIn H x) (hbd : ItBd xs) (hxl : xs.length ≤ 19) (hs0 : 0 ≤ ship) (hs1 : ship ≤ 1000000000000) :
    Calls Tryz.prog 32 #[.slice A ds.length cap, .agg #[.slice Ab xs.length capb, .int .i64 ship]] w fun e w' => (∃ v, e = .returned v ∧ PricedIn w.heap.size ds xs ship v w') ∧ Below w.heap.size w w' := by
  obtain ⟨n, rfl⟩ := Int.eq_ofNat_of_zero_le hs0
  refine (price_any H A cap ds Ab capb xs n w hH hR hds hl hRx hxs hbd hxl (by omega)).mono ?_
  rintro e w' ⟨⟨vl, vc, rfl, h1, h2, h3⟩, hb⟩
  exact ⟨⟨_, rfl, vl, vc, rfl, h1, h2, h3⟩, hb⟩
set_option maxHeartbeats 4000000 in
set_option maxRecDepth 100000 in
theorem price1_any (H : Frz) (gb ga : Nat) (B : Option Addr) (capb : Nat) (xs : List ItD) (ship at_ : Int) (d : OfD) (w : World) (hH : H.In w) (hb : H gb = some (.cells #[.slice B xs.length capb, .int .i64 ship] 30 (0, 0))) (ha : H ga = some (.cells #[.int .i64 at_] 3 (0, 0)))
    (hd : OfIn H d) (hR : Rw H B 4 fIt xs) (hx : ∀ x ∈ xs, ItIn H x) (hbd : ItBd xs) (hl : xs.length ≤ 19) :
    Calls Tryz.prog 30 #[.agg #[.string d.key, .int .i64 d.kind, .int .i64 d.a, .int .i64 d.b, .slice d.ta d.tags.length d.tc, .int .i64 d.least, .int .i64 d.most, .string d.group, .bool d.alone, .int .i64 d.order, .int .i64 d.first, .int .i64 d.last], .pointer (some ⟨gb, 0, none⟩), .pointer (some ⟨ga, 0, none⟩)] w fun e w' => e = .returned (.bool (badF xs ship at_ d)) ∧ Below w.heap.size w w' := by
  have HF := Lib.hid (fits_any H d B capb xs ship at_ (w.alloc (.cells #[.string d.key, .int .i64 d.kind, .int .i64 d.a, .int .i64 d.b, .slice d.ta d.tags.length d.tc, .int .i64 d.least, .int .i64 d.most, .string d.group, .bool d.alone, .int .i64 d.order, .int .i64 d.first, .int .i64 d.last] 50)) (hH.alloc _) hd hR hx hbd (by omega))
  have HB0 := Lib.hid (new1 (w := w) (.cells #[.string d.key, .int .i64 d.kind, .int .i64 d.a, .int .i64 d.b, .slice d.ta d.tags.length d.tc, .int .i64 d.least, .int .i64 d.most, .string d.group, .bool d.alone, .int .i64 d.order, .int .i64 d.first, .int .i64 d.last] 50))
  have HV : Hid (badF xs ship at_ d = (fitsN d xs ship at_ != 0)) := rfl
  have hk := heap_alloc_new w (.cells #[.string d.key, .int .i64 d.kind, .int .i64 d.a, .int .i64 d.b, .slice d.ta d.tags.length d.tc, .int .i64 d.least, .int .i64 d.most, .string d.group, .bool d.alone, .int .i64 d.order, .int .i64 d.first, .int .i64 d.last] 50)
  have y0 := cell_h hk 0 (v := .string d.key) rfl
  have y1 := cell_h hk 1 (v := .int .i64 d.kind) rfl
  have y2 := cell_h hk 2 (v := .int .i64 d.a) rfl
  have y3 := cell_h hk 3 (v := .int .i64 d.b) rfl
  have y4 := cell_h hk 4 (v := .slice d.ta d.tags.length d.tc) rfl
  have y5 := cell_h hk 5 (v := .int .i64 d.least) rfl
  have y6 := cell_h hk 6 (v := .int .i64 d.most) rfl
  have y7 := cell_h hk 7 (v := .string d.group) rfl
  have y8 := cell_h hk 8 (v := .bool d.alone) rfl
  have y9 := cell_h hk 9 (v := .int .i64 d.order) rfl
  have y10 := cell_h hk 10 (v := .int .i64 d.first) rfl
  have y11 := cell_h hk 11 (v := .int .i64 d.last) rfl
  have hin := hH.alloc (.cells #[.string d.key, .int .i64 d.kind, .int .i64 d.a, .int .i64 d.b, .slice d.ta d.tags.length d.tc, .int .i64 d.least, .int .i64 d.most, .string d.group, .bool d.alone, .int .i64 d.order, .int .i64 d.first, .int .i64 d.last] 50)
  have hk2 := hin _ _ hb
  have b0 := cell_h hk2 0 (v := .slice B xs.length capb) rfl
  have b1 := cell_h hk2 1 (v := .int .i64 ship) rfl
  have a0 := cell_h (hin _ _ ha) 0 (v := .int .i64 at_) rfl
  generalize fitsN d xs ship at_ = q at *
  generalize badF xs ship at_ d = r at *
  clear hk hk2 hin hH hb ha hd hR hx hbd
  go_enter Tryz.func30, Tryz.ntmps30
  go_upto_region 1 with (fail)
  generalize w.alloc (.cells #[.string d.key, .int .i64 d.kind, .int .i64 d.a, .int .i64 d.b, .slice d.ta d.tags.length d.tc, .int .i64 d.least, .int .i64 d.most, .string d.group, .bool d.alone, .int .i64 d.order, .int .i64 d.first, .int .i64 d.last] 50) = W1 at *
  go_wp2_with fail
  refine HF.out.mono ?_
  rintro e w' ⟨rfl, hb'⟩
  have HB' := Lib.hid (HB0.out.trans (hb'.mono HB0.out.size))
  clear hb' HF
  go_wp2_with fail
  go_ret
  exact ⟨by rw [HV.out]; rfl, HB'.out⟩
set_option maxHeartbeats 4000000 in
set_option maxRecDepth 100000 in
theorem Price_any (H : Frz) (A B : Option Addr) (cap capb : Nat) (ds : List OfD) (xs : List ItD) (ship at_ : Int) (w : World) (hH : H.In w) (hR : Rw H A 12 fOf ds) (hds : ∀ d ∈ ds, OfIn H d) (hl : ds.length ≤ 12) (hcap : ds.length ≤ cap)
    (hRx : Rw H B 4 fIt xs) (hxs : ∀ x ∈ xs, ItIn H x) (hxl : xs.length ≤ 19) (hcapb : xs.length ≤ capb) :
    Calls Tryz.prog 9 #[.slice A ds.length cap, .agg #[.slice B xs.length capb, .int .i64 ship], .int .i64 at_] w fun e w' => ((priceOk ds xs ship at_ = false ∧ ∃ c : Int, c ≠ 0 ∧ e = .returned (.tuple #[zeroPr, .int .i64 c])) ∨ (priceOk ds xs ship at_ = true ∧ ∃ v, e = .returned (.tuple #[v, .int .i64 0]) ∧ PricedIn w.heap.size ds xs ship v w')) ∧ Below w.heap.size w w' := by
  obtain ⟨H1, hle, hb1, ha1, hr1, hin1⟩ : ∃ H1 : Frz, H.Le H1 ∧ H1 w.heap.size = some (.cells #[.slice B xs.length capb, .int .i64 ship] 30 (0, 0)) ∧ H1 (w.heap.size + 1) = some (.cells #[.int .i64 at_] 3 (0, 0)) ∧ H1 (w.heap.size + 1 + 1) = some (.cells #[.slice none 0 0, .int .i64 0, .slice none 0 0, .int .i64 0] 35 (0, 0)) ∧ H1.In (((w.alloc (.cells #[.slice B xs.length capb, .int .i64 ship] 30)).alloc (.cells #[.int .i64 at_] 3)).alloc (.cells #[.slice none 0 0, .int .i64 0, .slice none 0 0, .int .i64 0] 35)) := by
    obtain ⟨Ha, la, ea, ia⟩ := hH.put (.cells #[.slice B xs.length capb, .int .i64 ship] 30)
    obtain ⟨Hb, lb, eb, ib⟩ := ia.put (.cells #[.int .i64 at_] 3)
    obtain ⟨Hc, lc, ec, ic⟩ := ib.put (.cells #[.slice none 0 0, .int .i64 0, .slice none 0 0, .int .i64 0] 35)
    have e2 : (w.alloc (.cells #[.slice B xs.length capb, .int .i64 ship] 30)).heap.size = w.heap.size + 1 := by simp
    have e3 : ((w.alloc (.cells #[.slice B xs.length capb, .int .i64 ship] 30)).alloc (.cells #[.int .i64 at_] 3)).heap.size = w.heap.size + 1 + 1 := by simp
    rw [e2] at eb
    rw [e3] at ec
    exact ⟨Hc, la.trans (lb.trans lc), lc _ _ (lb _ _ ea), lc _ _ eb, ec, ic⟩
  have HB0 : Hid (Below w.heap.size w (((w.alloc (.cells #[.slice B xs.length capb, .int .i64 ship] 30)).alloc (.cells #[.int .i64 at_] 3)).alloc (.cells #[.slice none 0 0, .int .i64 0, .slice none 0 0, .int .i64 0] 35))) := (new2 _ _).trans ((new1 _).mono (by simp; omega))
  have HDS : Hid (∀ d ∈ ds, OfIn H1 d) := fun d hd => (hds d hd).le hle
  have HXS : Hid (∀ x ∈ xs, ItIn H1 x) := fun x hx => (hxs x hx).le hle
  have HR := Lib.hid (hR.le hle)
  have HRX := Lib.hid (hRx.le hle)
  have HIN := Lib.hid hin1
  have HB1 := Lib.hid hb1
  have HA1 := Lib.hid ha1
  have HR1 := Lib.hid hr1
  have HOK : Hid (priceOk ds xs ship at_ = (checkB ds xs ship at_ && togetherB ds && !anyF (badF xs ship at_) ds)) := rfl
  have HC := Lib.hid (fun W (hW : H1.In W) => checkAll_any H1 A B cap capb ds xs ship at_ W hW HR.out HDS.out (by omega) hcap HRX.out HXS.out (by omega) hcapb)
  have HT := Lib.hid (fun W (hW : H1.In W) => together_any H1 A cap ds W hW HR.out HDS.out (by omega))
  have HCK := Lib.hid (fun h => checkB_ok (ds := ds) (xs := xs) (ship := ship) (at_ := at_) h)
  clear hH hR hds hRx hxs hle hb1 ha1 hr1 hin1
  generalize priceOk ds xs ship at_ = ok at *
  go_enter Tryz.func9, Tryz.ntmps9
  go_upto_region 1 with (fail)
  generalize ((w.alloc (.cells #[.slice B xs.length capb, .int .i64 ship] 30)).alloc (.cells #[.int .i64 at_] 3)).alloc (.cells #[.slice none 0 0, .int .i64 0, .slice none 0 0, .int .i64 0] 35) = W0 at *
  have hk := HIN.out _ _ HB1.out
  have b0 := cell_h hk 0 (v := .slice B xs.length capb) rfl
  have b1 := cell_h hk 1 (v := .int .i64 ship) rfl
  have a0 := cell_h (HIN.out _ _ HA1.out) 0 (v := .int .i64 at_) rfl
  clear hk
  go_wp2_with fail
  refine (HC.out _ HIN.out).mono ?_
  rintro e W1 ⟨n, rfl, hn, hbW⟩
  have HBB := Lib.hid (HB0.out.trans (hbW.mono HB0.out.size))
  have HIN1 := Lib.hid (HIN.out.below hbW)
  clear hbW HB0 HIN b0 b1 a0
  have HST : Hid (∀ W, H1.In W → W.cell? ⟨w.heap.size + 1 + 1, 0, none⟩ = some (.slice none 0 0) ∧ W.cell? ⟨w.heap.size + 1 + 1, 1, none⟩ = some (.int .i64 0) ∧ W.cell? ⟨w.heap.size + 1 + 1, 2, none⟩ = some (.slice none 0 0) ∧ W.cell? ⟨w.heap.size + 1 + 1, 3, none⟩ = some (.int .i64 0) ∧ W.frozen? ⟨w.heap.size + 1 + 1, 0, none⟩ = false ∧ W.frozen? ⟨w.heap.size + 1 + 1, 1, none⟩ = false ∧ W.frozen? ⟨w.heap.size + 1 + 1, 2, none⟩ = false ∧ W.frozen? ⟨w.heap.size + 1 + 1, 3, none⟩ = false) := fun W hW => by
    have h := hW _ _ HR1.out
    exact ⟨cell_h h 0 rfl, cell_h h 1 rfl, cell_h h 2 rfl, cell_h h 3 rfl, froz_h h 0, froz_h h 1, froz_h h 2, froz_h h 3⟩
  generalize checkB ds xs ship at_ = q at *
  cases q with
  | false =>
    have hn0 : (n != 0) = true := by simp; intro c; have := hn.1 c; cases this
    have hn1 : n ≠ 0 := by simpa using hn0
    have HV2 := Lib.hid (HOK.out.trans (by simp : _ = false))
    obtain ⟨r0, r1, r2, r3, f0, f1, f2, f3⟩ := HST.out W1 HIN1.out
    clear hn HOK
    go_wp2_with fail
    (try simp only [Exit.inBlock, Exit.then])
    obtain ⟨hg9, hh9⟩ := set4 (HIN1.out _ _ HR1.out) (.slice none 0 0) (.int .i64 0) (.slice none 0 0) (.int .i64 0)
    refine bodyPost_ret (results_row_tmp rfl _ _ (w.heap.size + 1 + 1) 35 _ (0, 0) _ rfl hh9 Tryz.underlying35 rfl (by kernel_rfl)) rfl ?_
    exact ⟨Or.inl ⟨HV2.out, n, hn1, rfl⟩, HBB.out.grown hg9 HBB.out.size (fun q hq => by injection hq with hq; omega)⟩
  | true =>
  have hn1 : n = 0 := hn.2 rfl
  subst hn1
  obtain ⟨hok, hbd, hs0, hs1⟩ := HCK.out rfl
  clear hn
  go_wp2_with fail
  refine (HT.out _ HIN1.out).mono ?_
  rintro e W2 ⟨rfl, hbW⟩
  have HBC := Lib.hid (HBB.out.trans (hbW.mono HBB.out.size))
  have HIN2 := Lib.hid (HIN1.out.below hbW)
  clear hbW HBB HIN1
  generalize togetherB ds = q at *
  cases q with
  | false =>
    have HV2 := Lib.hid (HOK.out.trans (by simp : _ = false))
    obtain ⟨r0, r1, r2, r3, f0, f1, f2, f3⟩ := HST.out W2 HIN2.out
    clear HOK
    go_wp2_with fail
    (try simp only [Exit.inBlock, Exit.then])
    obtain ⟨hg9, hh9⟩ := set4 (HIN2.out _ _ HR1.out) (.slice none 0 0) (.int .i64 0) (.slice none 0 0) (.int .i64 0)
    refine bodyPost_ret (results_row_tmp rfl _ _ (w.heap.size + 1 + 1) 35 _ (0, 0) _ rfl hh9 Tryz.underlying35 rfl (by kernel_rfl)) rfl ?_
    exact ⟨Or.inl ⟨HV2.out, 16, (by decide), rfl⟩, HBC.out.grown hg9 HBC.out.size (fun q hq => by injection hq with hq; omega)⟩
  | true =>
  have HCO := Lib.hid (containsFunc_Of H1 fOf 30 [.pointer (some ⟨w.heap.size, 0, none⟩), .pointer (some ⟨w.heap.size + 1, 0, none⟩)] (badF xs ship at_) ds (fun W d hd hW => price1_any H1 w.heap.size (w.heap.size + 1) B capb xs ship at_ d W hW HB1.out HA1.out (HDS.out d hd) HRX.out HXS.out hbd hxl) (fun _ _ => by kernel_rfl) A cap W2 HIN2.out HR.out (by omega))
  have HPB := Lib.hid hbd
  have HOF := Lib.hid hok
  clear hbd hok
  go_wp2_with fail
  refine HCO.out.mono ?_
  rintro e W3 ⟨rfl, hbW⟩
  have HBD := Lib.hid (HBC.out.trans (hbW.mono HBC.out.size))
  have HIN3 := Lib.hid (HIN2.out.below hbW)
  clear hbW HBC HIN2 HCO
  generalize anyF (badF xs ship at_) ds = q at *
  cases q with
  | true =>
    have HV2 := Lib.hid (HOK.out.trans (by simp : _ = false))
    obtain ⟨r0, r1, r2, r3, f0, f1, f2, f3⟩ := HST.out W3 HIN3.out
    clear HOK
    go_wp2_with fail
    (try simp only [Exit.inBlock, Exit.then])
    obtain ⟨hg9, hh9⟩ := set4 (HIN3.out _ _ HR1.out) (.slice none 0 0) (.int .i64 0) (.slice none 0 0) (.int .i64 0)
    refine bodyPost_ret (results_row_tmp rfl _ _ (w.heap.size + 1 + 1) 35 _ (0, 0) _ rfl hh9 Tryz.underlying35 rfl (by kernel_rfl)) rfl ?_
    exact ⟨Or.inl ⟨HV2.out, 11, (by decide), rfl⟩, HBD.out.grown hg9 HBD.out.size (fun q hq => by injection hq with hq; omega)⟩
  | false =>
    have HV2 := Lib.hid (HOK.out.trans (by simp : _ = true))
    have HPI := Lib.hid (price_in H1 A cap ds B capb xs ship W3 HIN3.out HR.out (fun d hd => ⟨HDS.out d hd, HOF.out d hd⟩) hl HRX.out HXS.out HPB.out hxl hs0 hs1)
    have hk := HIN3.out _ _ HB1.out
    have b0 := cell_h hk 0 (v := .slice B xs.length capb) rfl
    have b1 := cell_h hk 1 (v := .int .i64 ship) rfl
    clear hk HOK
    go_wp2_with fail
    refine HPI.out.mono ?_
    rintro e W4 ⟨⟨v, rfl, vl, vc, rfl, h1, h2, h3⟩, hbW⟩
    have HBE := Lib.hid (HBD.out.trans (hbW.mono HBD.out.size))
    have HIN4 := Lib.hid (HIN3.out.below hbW)
    obtain ⟨Al, cl, hvl, -⟩ := h1.slice
    obtain ⟨Ac, cc, hvc, -⟩ := h2.slice
    obtain ⟨r0, r1, r2, r3, f0, f1, f2, f3⟩ := HST.out W4 HIN4.out
    have HL := Lib.hid h1
    have HC2 := Lib.hid h2
    have HAP := Lib.hid h3
    have hlt3 : w.heap.size + 1 + 1 < W3.heap.size := lt_of_heap (HIN3.out _ _ HR1.out)
    subst hvl hvc
    clear h1 h2 h3 hbW HPI HIN3 b0 b1
    go_wp2_with fail
    (try simp only [Exit.inBlock, Exit.then])
    obtain ⟨hg9, hh9⟩ := set4 (HIN4.out _ _ HR1.out) (.slice Al (endS ds xs ship).left.length cl) (.int .i64 ((endS ds xs ship).ship : Nat)) (.slice Ac (endT ds xs ship).length cc) (.int .i64 (totS (endS ds xs ship) : Nat))
    refine bodyPost_ret (results_row_tmp rfl _ _ (w.heap.size + 1 + 1) 35 _ (0, 0) _ rfl hh9 Tryz.underlying35 rfl (by kernel_rfl)) rfl ?_
    refine ⟨Or.inr ⟨HV2.out, _, rfl, _, _, rfl, (HL.out.far hg9 hlt3).mono (by omega), (HC2.out.far hg9 hlt3).mono (by omega), HAP.out⟩, HBE.out.grown hg9 HBE.out.size (fun q hq => by injection hq with hq; omega)⟩
end Go.Proofs.YtihcmifikbkbcaaGreat
