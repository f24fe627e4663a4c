/- Texts of this claim, put together: CutP, Keyed, PartsO, CutsP, Cuts. -/
import Derived.Test.YtbidhpgjmcedaaaGreatDoorGBE
import Derived.Test.YtbidhpgjmcedaaaGreatDoorGBH
import Derived.Laws.Rows
import Derived.Test.YtbidhpgjmcedaaaGreatDoorGAN
import Derived.StillTailTactics
import Derived.Deep.Cut
import Derived.Test.YtbidhpgjmcedaaaGreatDoorGAS
import Derived.Test.YtbidhpgjmcedaaaGreatDoorGBI
import Derived.Test.YtbidhpgjmcedaaaGreatDoorGAJ
import Derived.Test.YtbidhpgjmcedaaaGreatDoorGAE
import Derived.Deep.MidRow
namespace Go.Proofs.YtbidhpgjmcedaaaGreatDoor
set_option linter.unusedVariables false
open Go.RowKit
theorem Share.mono {J J' : IdD → Bool} {ts : List TchD} (hJ : ∀ x, J x = true → J' x = true) {i j : Nat} (h : Share J ts i j) : Share J' ts i j := by
 obtain ⟨hi, hj, x, h1, h2, h3⟩ := h
 exact ⟨hi, hj, x, hJ x h1, h2, h3⟩
section
variable {J : IdD → Bool} {ts : List TchD} {rr : List Nat} {ρ : Nat}
theorem cls_lt {rep : Nat → Nat} {n r q : Nat} (h : q ∈ cls rep n r) : q < n := (in_cls.1 h).1
end
open Go.RowKit
theorem Orow.own_blkG {D : Type} {w : World} {B T k : Nat} {f : D → Nat → Value} {v : Value} {ds : List D} (h : Orow w B T k f v ds) {g : Nat} (e : v.ownBlock = some g) : ∃ cur, w.heap[g]? = some (.cells cur T (0, 0)) := by
 rcases h.2 with ⟨rfl, hn⟩ | ⟨g', cap, cur, rfl, hB, hh, hle, hm, hs, ht⟩
 ·cases e
 ·injection e with e
  subst e
  exact ⟨cur, hh⟩
theorem GrpIn.le {H H' : Frz} {gp bm n : Nat} {m : Lit → Option Value} {r : RulD} {A : Option Addr} {cap : Nat} {ts : List TchD} (h : GrpIn H gp bm n m r A cap ts) (hl : H.Le H') : GrpIn H' gp bm n m r A cap ts := by
 refine ⟨hl _ _ h.obj, fun W hW => h.map W (hW.le hl), ?_, fun x hx hp => ?_, h.none_, h.keys, h.rul.le hl, h.tch.le hl⟩
 ·obtain ⟨o, ho⟩ := h.blk
  exact ⟨o, hl _ _ ho⟩
 ·obtain ⟨B, c, e, hR, hc⟩ := h.some_ x hx hp
  exact ⟨B, c, e, hR.le hl, hc⟩
theorem Mp.ne_cells {P : Program} {k b n g : Nat} {w : World} {m : Lit → Option Value} (h : Mp P k w b n m) {cs : Array Value} {T : TypeId} {fr : Nat × Nat} (hc : w.heap[g]? = some (.cells cs T fr)) : b ≠ g := by
 obtain ⟨D, ⟨es, clock, h1, h2⟩, hd⟩ := h
 rintro rfl
 rw [h1] at hc
 cases hc
structure KeyAt (J : IdD → Bool) (ts : List TchD) (rep : Nat → Nat) (key : IdD) (k : Nat) : Prop where
 lt : k < (rts rep ts.length).length
 eq : ∀ (h : k < (rts rep ts.length).length), keyF J (tAt ts (rts rep ts.length)[k]).ids = key
 ne : ∀ j (h : j < (rts rep ts.length).length), j < k → keyF J (tAt ts (rts rep ts.length)[j]).ids ≠ key
def KeyIn (J : IdD → Bool) (ts : List TchD) (key : IdD) : Prop := ∃ (rr : List Nat) (k : Nat), Uf (Share J ts) rr ∧ KeyAt J ts (repN rr) key k
theorem KeyIn.at_ {J : IdD → Bool} {ts : List TchD} {key : IdD} (h : KeyIn J ts key) {rr : List Nat} (hu : Uf (Share J ts) rr) : ∃ k, KeyAt J ts (repN rr) key k := by
 obtain ⟨r2, k, h2, hk⟩ := h
 have e : repN r2 = repN rr := funext fun i => h2.rep_eq hu i
 rw [e] at hk
 exact ⟨k, hk⟩
open Go.RowKit
open Go.RowKit
theorem nodup_le {α : Type} : ∀ (out l : List α), out.Nodup → (∀ x ∈ out, x ∈ l) → out.length ≤ l.length
 | [], l, _, _ => Nat.zero_le _
 | x :: out, l, hn, hs => by
  obtain ⟨h1, h2⟩ := List.nodup_cons.1 hn
  have hx := hs x (by simp)
  obtain ⟨a, b, rfl⟩ := List.append_of_mem hx
  have := nodup_le out (a ++ b) h2 (fun y hy => by
   have := hs y (List.mem_cons_of_mem _ hy)
   rcases List.mem_append.1 this with h | h
   ·exact List.mem_append_left _ h
   ·rcases List.mem_cons.1 h with h | h
    ·subst h; exact absurd hy h1
    ·exact List.mem_append_right _ h)
  simp only [List.length_append, List.length_cons] at this ⊢
  omega
theorem idsOk_len {l out : List IdD} (h : IdsOk l out) : out.length ≤ l.length :=
 nodup_le out l (List.Pairwise.imp (fun {a b} h e => by
  subst e
  have := idCmp_zero.2 (rfl : a = a)
  omega) h.1) (fun x hx => (h.2 x).1 hx)
def inR (r : RulD) (M : Int) (wa : Option Addr) (wc : Nat) (ws : List IdD) : RulD := { r with most := M, wa := wa, wc := wc, weaks := ws }
structure CutS (w W6 : World) (gp bm : Nat) (r : RulD) (M : Int) (A2 : Option Addr) (n c2 : Nat) (wa : Option Addr) (wc : Nat) (ws : List IdD) (wr : World) : Prop where
 obj : wr.heap[gp]? = some (grpObj (inR r M wa wc ws) A2 n c2 bm)
 row : Orow wr W6.heap.size 55 2 fId (.slice wa ws.length wc) ws
 bel : Below w.heap.size w wr
 sz : W6.heap.size ≤ wr.heap.size
 old : ∀ b, b < W6.heap.size → b ≠ gp → wr.heap[b]? = W6.heap[b]?
 gl : gp < W6.heap.size
 gw : w.heap.size ≤ gp
section
variable {w W6 wr W' : World} {gp bm : Nat} {r : RulD} {M : Int} {A2 : Option Addr} {n c2 : Nat} {wa : Option Addr} {wc : Nat} {ws : List IdD}
theorem CutS.call (h : CutS w W6 gp bm r M A2 n c2 wa wc ws wr) (hb : Below wr.heap.size wr W') : CutS w W6 gp bm r M A2 n c2 wa wc ws W' :=
 ⟨(hb.block _ (lt_of_heap h.obj)).trans h.obj, h.row.below hb, h.bel.trans (hb.mono h.bel.size), Nat.le_trans h.sz hb.size, fun b hb1 hne => (hb.block b (Nat.lt_of_lt_of_le hb1 h.sz)).trans (h.old b hb1 hne), h.gl, h.gw⟩
theorem CutS.alloc (h : CutS w W6 gp bm r M A2 n c2 wa wc ws wr) (o : Obj) : CutS w W6 gp bm r M A2 n c2 wa wc ws (wr.alloc o) := h.call (new1 o)
theorem CutS.inn (h : CutS w W6 gp bm r M A2 n c2 wa wc ws wr) {H : Frz} (hH : H.In W6) (hg : H gp = none) : H.In wr := fun b o e => (h.old b (hH.lt e) (fun c => by subst c; rw [hg] at e; cases e)).trans (hH b o e)
theorem CutS.app (h : CutS w W6 gp bm r M A2 n c2 wa wc ws wr) {v' : Value} {ws' : List IdD} (o : Orow W' W6.heap.size 55 2 fId v' ws') (g1 : wr.grownBy W' (Value.slice wa ws.length wc).ownBlock) :
  W'.cell? ⟨gp, 2, none⟩ = some (.slice wa ws.length wc) ∧ W'.frozen? ⟨gp, 2, none⟩ = false ∧ ∃ A' c', v' = .slice A' ws'.length c' ∧ CutS w W6 gp bm r M A2 n c2 A' c' ws' (W'.setCell ⟨gp, 2, none⟩ v') := by
 obtain ⟨A', c', hv, -⟩ := o.slice
 subst hv
 have hgl := h.gl
 have hgw := h.gw
 have hobj : W'.heap[gp]? = some (grpObj (inR r M wa wc ws) A2 n c2 bm) := (g1.block gp (lt_of_heap h.obj) (fun e => by have := (h.row.lt e.symm).1; omega)).trans h.obj
 have hwB : w.heap.size ≤ W6.heap.size := by omega
 have hbel : Below w.heap.size w W' := ⟨g1.os.trans h.bel.os, g1.tape.trans h.bel.tape, g1.output.trans h.bel.output, Nat.le_trans h.bel.size g1.size, fun k hk => (g1.block k (Nat.lt_of_lt_of_le hk h.bel.size) (fun e => by have := (h.row.lt e.symm).1; omega)).trans (h.bel.block k hk)⟩
 refine ⟨cell_h hobj 2 rfl, froz_h hobj 2, A', c', rfl, ⟨?_, ?_, hbel.setCell (p := ⟨gp, 2, none⟩) hgw _, ?_, fun b hb1 hne => ?_, hgl, hgw⟩⟩
 ·simp [World.setCell, Array.getElem?_modify, hobj, grpObj, inR]
 ·exact ownsRow_heap o (fun g e => Below.heap_setCell W' _ _ g (by have := (o.lt e).1; show g ≠ gp; omega))
 ·have := h.sz; have := g1.size; simp [World.setCell]; omega
 ·refine (Below.heap_setCell W' _ _ b hne).trans ((g1.block b (Nat.lt_of_lt_of_le hb1 h.sz) (fun e => by have := (h.row.lt e.symm).1; omega)).trans (h.old b hb1 hne))
end
theorem tAt_mem {ts : List TchD} {q : Nat} (h : q < ts.length) : tAt ts q ∈ ts := by
 rw [tAt_lt h]; exact List.getElem_mem h
theorem CutS.start {w W6 W8 : World} {gp bm : Nat} {r : RulD} {M : Int} {A2 : Option Addr} {n c2 : Nat} {wa : Option Addr} {wc : Nat} {ws : List IdD} (h6 : W6.heap[gp]? = some (grpObj r A2 n c2 bm)) (hb : Below w.heap.size w W6) (hg : w.heap.size ≤ gp)
  (h8 : Below (W6.setCell ⟨gp, 1, none⟩ (.int .i64 M)).heap.size (W6.setCell ⟨gp, 1, none⟩ (.int .i64 M)) W8) (hr : Orow W8 (W6.setCell ⟨gp, 1, none⟩ (.int .i64 M)).heap.size 55 2 fId (.slice wa ws.length wc) ws) :
  W8.cell? ⟨gp, 2, none⟩ = some (.slice r.wa r.weaks.length r.wc) ∧ W8.frozen? ⟨gp, 2, none⟩ = false ∧ CutS w W6 gp bm r M A2 n c2 wa wc ws (W8.setCell ⟨gp, 2, none⟩ (.slice wa ws.length wc)) := by
 have hs : (W6.setCell ⟨gp, 1, none⟩ (.int .i64 M)).heap.size = W6.heap.size := by simp [World.setCell]
 have hgl : gp < W6.heap.size := lt_of_heap h6
 have h7 : (W6.setCell ⟨gp, 1, none⟩ (.int .i64 M)).heap[gp]? = some (.cells #[.slice r.ka r.kinds.length r.kc, .int .i64 M, .slice r.wa r.weaks.length r.wc, .slice r.sa r.surs.length r.sc, .slice A2 n c2, .map (some bm)] 152 (0, 0)) := by
  simp [World.setCell, Array.getElem?_modify, h6, grpObj]
 have h88 := (h8.block gp (by rw [hs]; exact hgl)).trans h7
 rw [hs] at hr
 refine ⟨cell_h h88 2 rfl, froz_h h88 2, ⟨by simp [World.setCell, Array.getElem?_modify, h88, grpObj, inR], ownsRow_heap hr (fun g e => Below.heap_setCell W8 _ _ g (by have := (hr.lt e).1; show g ≠ gp; omega)), ?_, ?_, fun b hb1 hne => ?_, hgl, hg⟩⟩
 ·exact ((hb.setCell (p := ⟨gp, 1, none⟩) hg _).trans (h8.mono (by rw [hs]; exact hb.size))).setCell (p := ⟨gp, 2, none⟩) hg _
 ·have := h8.size; rw [hs] at this; simpa [World.setCell] using this
 ·exact (Below.heap_setCell W8 _ _ b hne).trans ((h8.block b (by rw [hs]; exact hb1)).trans (Below.heap_setCell W6 _ _ b hne))
theorem GrpIn.look {H : Frz} {gp bm n : Nat} {m : Lit → Option Value} {r : RulD} {A : Option Addr} {cap : Nat} {ts : List TchD} (hG : GrpIn H gp bm n m r A cap ts) {x : IdD} (hx : FitId x) :
  ∃ B c, ∀ W, H.In W → (Instr.lookup 150 (.map (some bm)) (.agg #[.int .i64 x.kind, .string x.text]) false).run Tryz.prog W = .ok (.slice B (posL ts x).length c) W := by
 by_cases hp : posL ts x = []
 ·refine ⟨none, 0, fun W hW => ?_⟩
  have := (hG.map W hW).look idKeyed Tryz.underlying150 (z := .slice none 0 0) (by kernel_rfl) (keyId hx) false
  rw [hG.none_ x hx hp] at this
  rw [hp]
  exact this
 ·obtain ⟨B, c, e, _⟩ := hG.some_ x hx hp
  refine ⟨B, c, fun W hW => ?_⟩
  have := (hG.map W hW).look idKeyed Tryz.underlying150 (z := .slice none 0 0) (by kernel_rfl) (keyId hx) false
  rw [e] at this
  exact this
theorem CutS.sorted {w W6 wr W' : World} {gp bm : Nat} {r : RulD} {M : Int} {A2 : Option Addr} {n c2 : Nat} {wa : Option Addr} {wc : Nat} {ws ws' : List IdD} (h : CutS w W6 gp bm r M A2 n c2 wa wc ws wr) (hl : ws'.length = ws.length) (o : Orow W' W6.heap.size 55 2 fId (.slice wa ws.length wc) ws') (g1 : wr.grownBy W' (Value.slice wa ws.length wc).ownBlock) :
  CutS w W6 gp bm r M A2 n c2 wa wc ws' W' := by
 have hgl := h.gl
 have hgw := h.gw
 have hobj : W'.heap[gp]? = some (grpObj (inR r M wa wc ws) A2 n c2 bm) := (g1.block gp (lt_of_heap h.obj) (fun e => by have := (h.row.lt e.symm).1; omega)).trans h.obj
 refine ⟨?_, by rw [hl]; exact o, ⟨g1.os.trans h.bel.os, g1.tape.trans h.bel.tape, g1.output.trans h.bel.output, Nat.le_trans h.bel.size g1.size, fun k hk => (g1.block k (Nat.lt_of_lt_of_le hk h.bel.size) (fun e => by have := (h.row.lt e.symm).1; omega)).trans (h.bel.block k hk)⟩, Nat.le_trans h.sz g1.size, fun b hb hne => (g1.block b (Nat.lt_of_lt_of_le hb h.sz) (fun e => by have := (h.row.lt e.symm).1; omega)).trans (h.old b hb hne), hgl, hgw⟩
 rw [hobj]
 simp [grpObj, inR, hl]
open Go.RowKit
end Go.Proofs.YtbidhpgjmcedaaaGreatDoor
