/- Texts of this claim, put together: MakeOff, MakeOffs, MakeBas. -/
import Derived.Test.YtihcmifikbkbcaaGreatPA
import Derived.Test.YtihcmifikbkbcaaGreatPE
import Derived.Laws.Rows
import Derived.Deep.CutBlock
import Derived.Deep.DeepCutAuto
import Derived.Test.YtihcmifikbkbcaaGreatPH
/- What a stream makes: an offer. -/
namespace Go.Proofs.YtihcmifikbkbcaaGreat
set_option linter.unusedVariables false
open Go.RowKit
/-- Ahead of an offer: the block of the result. -/
structure OM0 (w : World) (bs K : Nat) (H : Frz) (W00 : World) (rb : Nat) (wr : World) : Prop where
  lw : Lw w bs K H wr
  res : wr.heap[rb]? = some (.cells #[.string ⟨#[]⟩, .int .i64 0, .int .i64 0, .int .i64 0, .slice none 0 0, .int .i64 0, .int .i64 0, .string ⟨#[]⟩, .bool false, .int .i64 0, .int .i64 0, .int .i64 0] 50 (0, 0))
  br : bs < rb
  hr : H rb = none
  gr : W00.grownBy wr (some bs)
  lr : W00.heap.size ≤ rb
/-- An offer in the making. -/
structure OM (w : World) (bs K : Nat) (H0 H : Frz) (W00 : World) (ob rb : Nat) (d : OfD) (wr : World) : Prop where
  lw : Lw w bs K H wr
  blk : wr.heap[ob]? = some (.cells #[.string d.key, .int .i64 d.kind, .int .i64 d.a, .int .i64 d.b, .slice d.ta d.tags.length d.tc, .int .i64 d.least, .int .i64 d.most, .string d.group, .bool d.alone, .int .i64 d.order, .int .i64 d.first, .int .i64 d.last] 50 (0, 0))
  res : wr.heap[rb]? = some (.cells #[.string ⟨#[]⟩, .int .i64 0, .int .i64 0, .int .i64 0, .slice none 0 0, .int .i64 0, .int .i64 0, .string ⟨#[]⟩, .bool false, .int .i64 0, .int .i64 0, .int .i64 0] 50 (0, 0))
  bo : bs < ob
  br : bs < rb
  ne : rb ≠ ob
  ho : H ob = none
  hr : H rb = none
  gr : W00.grownBy wr (some bs)
  le : H0.Le H
  old : ∀ b, b < W00.heap.size → H b = H0 b
  lo : W00.heap.size ≤ ob
  lr : W00.heap.size ≤ rb
  ok : OfIn H d
section
variable {w wr W' W00 : World} {bs K K' ob rb : Nat} {H0 H : Frz} {d : OfD}
theorem grown_then {w w' w'' : World} {r : Option Nat} (h : w.grownBy w' r) (k : w'.grownBy w'' r) : w.grownBy w'' r :=
  ⟨k.os.trans h.os, k.tape.trans h.tape, k.output.trans h.output, Nat.le_trans h.size k.size, fun b hb hne => (k.block b (Nat.lt_of_lt_of_le hb h.size) hne).trans (h.block b hb hne)⟩
theorem grown_of_below {w w' : World} {r : Option Nat} (h : Below w.heap.size w w') : w.grownBy w' r := ⟨h.os, h.tape, h.output, h.size, fun b hb _ => h.block b hb⟩
theorem OM0.call (h : OM0 w bs K H W00 rb wr) (hb : Below wr.heap.size wr W') : OM0 w bs K H W00 rb W' :=
  ⟨h.lw.call hb, (hb.block _ (lt_of_heap h.res)).trans h.res, h.br, h.hr, grown_then h.gr (grown_of_below hb), h.lr⟩
theorem OM0.alloc (h : OM0 w bs K H W00 rb wr) (o : Obj) : OM0 w bs K H W00 rb (wr.alloc o) := h.call (new1 o)
theorem OM0.asked (h : OM0 w bs K H W00 rb wr) (L : Lw w bs K' H W') (g : wr.grownBy W' (some bs)) : OM0 w bs K' H W00 rb W' :=
  ⟨L, (g.block _ (lt_of_heap h.res) (fun e => by injection e with e; have := h.br; omega)).trans h.res, h.br, h.hr, grown_then h.gr g, h.lr⟩
theorem OM.more (h : OM w bs K H0 H W00 ob rb d wr) (hK : K ≤ K') : OM w bs K' H0 H W00 ob rb d wr := ⟨h.lw.more hK, h.blk, h.res, h.bo, h.br, h.ne, h.ho, h.hr, h.gr, h.le, h.old, h.lo, h.lr, h.ok⟩
theorem OM.call (h : OM w bs K H0 H W00 ob rb d wr) (hb : Below wr.heap.size wr W') : OM w bs K H0 H W00 ob rb d W' :=
  ⟨h.lw.call hb, (hb.block _ (lt_of_heap h.blk)).trans h.blk, (hb.block _ (lt_of_heap h.res)).trans h.res, h.bo, h.br, h.ne, h.ho, h.hr, grown_then h.gr (grown_of_below hb), h.le, h.old, h.lo, h.lr, h.ok⟩
theorem OM.alloc (h : OM w bs K H0 H W00 ob rb d wr) (o : Obj) : OM w bs K H0 H W00 ob rb d (wr.alloc o) := h.call (new1 o)
theorem OM.asked (h : OM w bs K H0 H W00 ob rb d wr) (L : Lw w bs K' H W') (g : wr.grownBy W' (some bs)) : OM w bs K' H0 H W00 ob rb d W' :=
  ⟨L, (g.block _ (lt_of_heap h.blk) (fun e => by injection e with e; have := h.bo; omega)).trans h.blk, (g.block _ (lt_of_heap h.res) (fun e => by injection e with e; have := h.br; omega)).trans h.res, h.bo, h.br, h.ne, h.ho, h.hr, grown_then h.gr g, h.le, h.old, h.lo, h.lr, h.ok⟩
theorem OM.put (h : OM w bs K H0 H W00 ob rb d wr) (o : Obj) : ∃ H', H.Le H' ∧ H' wr.heap.size = some o ∧ OM w bs K H0 H' W00 ob rb d (wr.alloc o) := by
  have hl := Frz.le_add (o := o) (h.lw.fin.none_ (Nat.le_refl _))
  have hs := h.gr.size
  refine ⟨H.add wr.heap.size o, hl, Frz.add_at _ _ _, (h.lw.alloc o).keep (heap_at rfl) (by have := h.lw.lt; omega), (h.alloc o).blk, (h.alloc o).res, h.bo, h.br, h.ne, ?_, ?_, (h.alloc o).gr, h.le.trans hl, fun b hb => ?_, h.lo, h.lr, h.ok.le hl⟩
  · rw [Frz.add_other (by have := lt_of_heap h.blk; omega)]; exact h.ho
  · rw [Frz.add_other (by have := lt_of_heap h.res; omega)]; exact h.hr
  · rw [Frz.add_other (by omega)]; exact h.old b hb
theorem OM.new {H : Frz} (h : OM0 w bs K H W00 rb wr) (hd : OfIn H d) : OM w bs K H H W00 wr.heap.size rb d (wr.alloc (.cells #[.string d.key, .int .i64 d.kind, .int .i64 d.a, .int .i64 d.b, .slice d.ta d.tags.length d.tc, .int .i64 d.least, .int .i64 d.most, .string d.group, .bool d.alone, .int .i64 d.order, .int .i64 d.first, .int .i64 d.last] 50)) :=
  ⟨h.lw.alloc _, heap_at rfl, (h.alloc _).res, h.lw.lt, h.br, by have := lt_of_heap h.res; omega, h.lw.fin.none_ (Nat.le_refl _), h.hr, (h.alloc _).gr, Frz.Le.refl _, fun _ _ => rfl, h.gr.size, h.lr, hd⟩
theorem OM.set (h : OM w bs K H0 H W00 ob rb d wr) (j : Nat) (x : Value) (d' : OfD) (hd : OfIn H d') (he : (wr.setCell ⟨ob, j, none⟩ x).heap[ob]? = some (.cells #[.string d'.key, .int .i64 d'.kind, .int .i64 d'.a, .int .i64 d'.b, .slice d'.ta d'.tags.length d'.tc, .int .i64 d'.least, .int .i64 d'.most, .string d'.group, .bool d'.alone, .int .i64 d'.order, .int .i64 d'.first, .int .i64 d'.last] 50 (0, 0))) : OM w bs K H0 H W00 ob rb d' (wr.setCell ⟨ob, j, none⟩ x) := by
  refine ⟨h.lw.setCell (p := ⟨ob, j, none⟩) h.bo h.ho x, he, (Below.heap_setCell wr _ _ rb h.ne).trans h.res, h.bo, h.br, h.ne, h.ho, h.hr, ?_, h.le, h.old, h.lo, h.lr, hd⟩
  exact ⟨h.gr.os, h.gr.tape, h.gr.output, by have := h.gr.size; simpa [World.setCell] using this, fun b hb hne => (Below.heap_setCell wr _ _ b (by have := h.lo; show b ≠ ob; omega)).trans (h.gr.block b hb hne)⟩
theorem OM.set2 (h : OM w bs K H0 H W00 ob rb d wr) (x : Int) : OM w bs K H0 H W00 ob rb { d with a := x } (wr.setCell ⟨ob, 2, none⟩ (.int .i64 x)) := h.set 2 _ _ ⟨h.ok.tags, h.ok.key, h.ok.group⟩ (by simp [World.setCell, Array.getElem?_modify, h.blk])
theorem OM.set3 (h : OM w bs K H0 H W00 ob rb d wr) (x : Int) : OM w bs K H0 H W00 ob rb { d with b := x } (wr.setCell ⟨ob, 3, none⟩ (.int .i64 x)) := h.set 3 _ _ ⟨h.ok.tags, h.ok.key, h.ok.group⟩ (by simp [World.setCell, Array.getElem?_modify, h.blk])
theorem OM.set5 (h : OM w bs K H0 H W00 ob rb d wr) (x : Int) : OM w bs K H0 H W00 ob rb { d with least := x } (wr.setCell ⟨ob, 5, none⟩ (.int .i64 x)) := h.set 5 _ _ ⟨h.ok.tags, h.ok.key, h.ok.group⟩ (by simp [World.setCell, Array.getElem?_modify, h.blk])
theorem OM.set6 (h : OM w bs K H0 H W00 ob rb d wr) (x : Int) : OM w bs K H0 H W00 ob rb { d with most := x } (wr.setCell ⟨ob, 6, none⟩ (.int .i64 x)) := h.set 6 _ _ ⟨h.ok.tags, h.ok.key, h.ok.group⟩ (by simp [World.setCell, Array.getElem?_modify, h.blk])
theorem OM.set8 (h : OM w bs K H0 H W00 ob rb d wr) (x : Bool) : OM w bs K H0 H W00 ob rb { d with alone := x } (wr.setCell ⟨ob, 8, none⟩ (.bool x)) := h.set 8 _ _ ⟨h.ok.tags, h.ok.key, h.ok.group⟩ (by simp [World.setCell, Array.getElem?_modify, h.blk])
theorem OM.set11 (h : OM w bs K H0 H W00 ob rb d wr) (x : Int) : OM w bs K H0 H W00 ob rb { d with last := x } (wr.setCell ⟨ob, 11, none⟩ (.int .i64 x)) := h.set 11 _ _ ⟨h.ok.tags, h.ok.key, h.ok.group⟩ (by simp [World.setCell, Array.getElem?_modify, h.blk])
theorem OM.set7 (h : OM w bs K H0 H W00 ob rb d wr) (x : ByteArray) (hx : x.size ≤ 1000000) : OM w bs K H0 H W00 ob rb { d with group := x } (wr.setCell ⟨ob, 7, none⟩ (.string x)) := h.set 7 _ _ ⟨h.ok.tags, h.ok.key, hx⟩ (by simp [World.setCell, Array.getElem?_modify, h.blk])
theorem OM.set4 (h : OM w bs K H0 H W00 ob rb d wr) (A : Option Addr) (ss : List ByteArray) (cap : Nat) (hx : Ss H (.slice A ss.length cap) ss) : OM w bs K H0 H W00 ob rb { d with ta := A, tc := cap, tags := ss } (wr.setCell ⟨ob, 4, none⟩ (.slice A ss.length cap)) := h.set 4 _ _ ⟨hx, h.ok.key, h.ok.group⟩ (by simp [World.setCell, Array.getElem?_modify, h.blk])
theorem OM.frz (h : OM w bs K H0 H W00 ob rb d wr) (j : Nat) : wr.frozen? ⟨ob, j, none⟩ = false := froz_h h.blk j
end
theorem grown_setc {w w' : World} {r : Nat} (g : w.grownBy w' (some r)) (j : Nat) (v : Value) : w.grownBy (w'.setCell ⟨r, j, none⟩ v) (some r) := ⟨g.os, g.tape, g.output, by have := g.size; simpa [World.setCell] using this, fun k hk hne => (Below.heap_setCell w' _ _ k (fun e => hne (by rw [e]))).trans (g.block k hk hne)⟩
theorem size_setc (w : World) (a : Addr) (v : Value) : (w.setCell a v).heap.size = w.heap.size := by simp [World.setCell]
theorem setc {w : World} {r T : Nat} {xs : Array Value} (h : w.heap[r]? = some (.cells xs T (0, 0))) (j : Nat) (v : Value) : (w.setCell ⟨r, j, none⟩ v).heap[r]? = some (.cells (xs.setIfInBounds j v) T (0, 0)) := by simp [World.setCell, Array.getElem?_modify, h]
set_option maxHeartbeats 1000000 in
theorem set12 {wr : World} {r T : Nat} {a0 a1 a2 a3 a4 a5 a6 a7 a8 a9 a10 a11 : Value} (h : wr.heap[r]? = some (.cells #[a0, a1, a2, a3, a4, a5, a6, a7, a8, a9, a10, a11] T (0, 0))) (v0 v1 v2 v3 v4 v5 v6 v7 v8 v9 v10 v11 : Value) :
    wr.grownBy ((((((((((((wr.setCell ⟨r, 0, none⟩ v0).setCell ⟨r, 1, none⟩ v1).setCell ⟨r, 2, none⟩ v2).setCell ⟨r, 3, none⟩ v3).setCell ⟨r, 4, none⟩ v4).setCell ⟨r, 5, none⟩ v5).setCell ⟨r, 6, none⟩ v6).setCell ⟨r, 7, none⟩ v7).setCell ⟨r, 8, none⟩ v8).setCell ⟨r, 9, none⟩ v9).setCell ⟨r, 10, none⟩ v10).setCell ⟨r, 11, none⟩ v11) (some r) ∧ ((((((((((((wr.setCell ⟨r, 0, none⟩ v0).setCell ⟨r, 1, none⟩ v1).setCell ⟨r, 2, none⟩ v2).setCell ⟨r, 3, none⟩ v3).setCell ⟨r, 4, none⟩ v4).setCell ⟨r, 5, none⟩ v5).setCell ⟨r, 6, none⟩ v6).setCell ⟨r, 7, none⟩ v7).setCell ⟨r, 8, none⟩ v8).setCell ⟨r, 9, none⟩ v9).setCell ⟨r, 10, none⟩ v10).setCell ⟨r, 11, none⟩ v11).heap[r]? = some (.cells #[v0, v1, v2, v3, v4, v5, v6, v7, v8, v9, v10, v11] T (0, 0)) := by
  constructor
  · exact (grown_setc (grown_setc (grown_setc (grown_setc (grown_setc (grown_setc (grown_setc (grown_setc (grown_setc (grown_setc (grown_setc (grown_setc (World.grownBy.refl wr (some r)) 0 v0) 1 v1) 2 v2) 3 v3) 4 v4) 5 v5) 6 v6) 7 v7) 8 v8) 9 v9) 10 v10) 11 v11)
  · skip
    have h0 := setc h 0 v0
    change _ = some (Obj.cells #[v0, a1, a2, a3, a4, a5, a6, a7, a8, a9, a10, a11] T (0, 0)) at h0
    have h1 := setc h0 1 v1
    change _ = some (Obj.cells #[v0, v1, a2, a3, a4, a5, a6, a7, a8, a9, a10, a11] T (0, 0)) at h1
    have h2 := setc h1 2 v2
    change _ = some (Obj.cells #[v0, v1, v2, a3, a4, a5, a6, a7, a8, a9, a10, a11] T (0, 0)) at h2
    have h3 := setc h2 3 v3
    change _ = some (Obj.cells #[v0, v1, v2, v3, a4, a5, a6, a7, a8, a9, a10, a11] T (0, 0)) at h3
    have h4 := setc h3 4 v4
    change _ = some (Obj.cells #[v0, v1, v2, v3, v4, a5, a6, a7, a8, a9, a10, a11] T (0, 0)) at h4
    have h5 := setc h4 5 v5
    change _ = some (Obj.cells #[v0, v1, v2, v3, v4, v5, a6, a7, a8, a9, a10, a11] T (0, 0)) at h5
    have h6 := setc h5 6 v6
    change _ = some (Obj.cells #[v0, v1, v2, v3, v4, v5, v6, a7, a8, a9, a10, a11] T (0, 0)) at h6
    have h7 := setc h6 7 v7
    change _ = some (Obj.cells #[v0, v1, v2, v3, v4, v5, v6, v7, a8, a9, a10, a11] T (0, 0)) at h7
    have h8 := setc h7 8 v8
    change _ = some (Obj.cells #[v0, v1, v2, v3, v4, v5, v6, v7, v8, a9, a10, a11] T (0, 0)) at h8
    have h9 := setc h8 9 v9
    change _ = some (Obj.cells #[v0, v1, v2, v3, v4, v5, v6, v7, v8, v9, a10, a11] T (0, 0)) at h9
    have h10 := setc h9 10 v10
    change _ = some (Obj.cells #[v0, v1, v2, v3, v4, v5, v6, v7, v8, v9, v10, a11] T (0, 0)) at h10
    have h11 := setc h10 11 v11
    change _ = some (Obj.cells #[v0, v1, v2, v3, v4, v5, v6, v7, v8, v9, v10, v11] T (0, 0)) at h11
    exact h11
theorem Ss.of_row {H : Frz} {q T n : Nat} {ss : List ByteArray} {cs : Array Value} (h : H q = some (.cells cs T (0, 0))) (hc : cs = (ss.map Value.string).toArray) (hn : ss.length = n) (hs : ∀ s ∈ ss, s.size ≤ 1000000) (hl : ss.length ≤ 1000000) : Ss H (.slice (some ⟨q, 0, none⟩) n n) ss := by
  subst hn hc
  refine ⟨_, _, rfl, Nat.le_refl _, ?_, hs, hl⟩
  intro i hi
  refine ⟨q, 0, rfl, fun j hj => ?_⟩
  have : j = 0 := by omega
  subst this
  unfold Frz.cell?
  simp [h, fS, hi]
set_option maxHeartbeats 8000000 in
set_option maxRecDepth 100000 in
theorem Lw.offer {w W : World} {bs K : Nat} {H : Frz} (h : Lw w bs K H W) (hK : K ≤ 1000000) (key : ByteArray) (hk : key.size ≤ 1000) :
    Calls Tryz.prog 24 #[.pointer (some ⟨bs, 0, none⟩), .string key] W fun e W' => ∃ d H', e = .returned (.agg #[.string d.key, .int .i64 d.kind, .int .i64 d.a, .int .i64 d.b, .slice d.ta d.tags.length d.tc, .int .i64 d.least, .int .i64 d.most, .string d.group, .bool d.alone, .int .i64 d.order, .int .i64 d.first, .int .i64 d.last]) ∧ H.Le H' ∧ (∀ b, b < W.heap.size → H' b = H b) ∧ Lw w bs (K + 30) H' W' ∧ W.grownBy W' (some bs) ∧ OfIn H' d := by
  have hbs := h.lt
  have C0 : Hid (OM0 w bs K H W W.heap.size (W.alloc (.cells #[.string ⟨#[]⟩, .int .i64 0, .int .i64 0, .int .i64 0, .slice none 0 0, .int .i64 0, .int .i64 0, .string ⟨#[]⟩, .bool false, .int .i64 0, .int .i64 0, .int .i64 0] 50))) := ⟨h.alloc _, heap_at rfl, h.lt, h.fin.none_ (Nat.le_refl _), grown_of_below (new1 _), Nat.le_refl _⟩
  clear h
  go_enter Tryz.func24, Tryz.ntmps24
  go_upto_region 1 with (fail)
  generalize W.alloc (.cells #[.string ⟨#[]⟩, .int .i64 0, .int .i64 0, .int .i64 0, .slice none 0 0, .int .i64 0, .int .i64 0, .string ⟨#[]⟩, .bool false, .int .i64 0, .int .i64 0, .int .i64 0] 50) = W1 at C0 ⊢
  go_wp2_with fail
  refine (C0.out.lw.range 1 4 (by omega) (by omega) (by omega) (by omega)).mono ?_
  rintro e W2 ⟨kd, rfl, kd0, kd1, Lq, gq, -⟩
  have C1 := Lib.hid (C0.out.asked Lq gq)
  clear Lq gq C0
  have hne := C1.out.lw.lt
  have hIn : Ints (W2.alloc (.cells #[.int .i64 0, .int .i64 0, .int .i64 1, .int .i64 2] 3)) (some ⟨W2.heap.size, 0, none⟩) [0, 0, 1, 2] := Ints.of_row (heap_at rfl) rfl
  have HIn := Lib.hid hIn
  clear hIn
  go_wp2_with fail
  refine ((C1.out.alloc _).lw.pick _ _ [0, 0, 1, 2] HIn.out (fun b off e => by injection e with e; injection e with e1 e2; omega) (by simp) (by simp) (by omega)).mono ?_
  rintro e W3 ⟨od, rfl, hod, Lq, gq, -⟩
  have C2 := Lib.hid ((C1.out.alloc _).asked Lq gq)
  clear Lq gq HIn hne C1
  have hne := C2.out.lw.lt
  have hIn : Ints (W3.alloc (.cells #[.int .i64 0, .int .i64 0, .int .i64 0, .int .i64 60] 3)) (some ⟨W3.heap.size, 0, none⟩) [0, 0, 0, 60] := Ints.of_row (heap_at rfl) rfl
  have HIn := Lib.hid hIn
  clear hIn
  go_wp2_with fail
  refine ((C2.out.alloc _).lw.pick _ _ [0, 0, 0, 60] HIn.out (fun b off e => by injection e with e; injection e with e1 e2; omega) (by simp) (by simp) (by omega)).mono ?_
  rintro e W4 ⟨fi, rfl, hfi, Lq, gq, -⟩
  have C3 := Lib.hid ((C2.out.alloc _).asked Lq gq)
  clear Lq gq HIn hne C2
  have hne := C3.out.lw.lt
  have hIn : Ints (W4.alloc (.cells #[.int .i64 50, .int .i64 100, .int .i64 4321440, .int .i64 4321440] 3)) (some ⟨W4.heap.size, 0, none⟩) [50, 100, 4321440, 4321440] := Ints.of_row (heap_at rfl) rfl
  have HIn := Lib.hid hIn
  clear hIn
  go_wp2_with fail
  refine ((C3.out.alloc _).lw.pick _ _ [50, 100, 4321440, 4321440] HIn.out (fun b off e => by injection e with e; injection e with e1 e2; omega) (by simp) (by simp) (by omega)).mono ?_
  rintro e W5 ⟨la, rfl, hla, Lq, gq, -⟩
  have C4 := Lib.hid ((C3.out.alloc _).asked Lq gq)
  clear Lq gq HIn hne C3
  have hfb : 0 ≤ fi ∧ fi ≤ 60 := by simp at hfi; omega
  have D0 := Lib.hid (OM.new (d := (⟨key, kd, 0, 0, none, 0, [], 0, 0, ⟨#[]⟩, false, od, fi, la⟩ : OfD)) C4.out ⟨Ss.nil _, by show key.size ≤ _; omega, by show (0 : Nat) ≤ _; omega⟩)
  clear C4 hod hfi hla
  go_upto_region 2 with (fail)
  change Hid (OM w bs _ _ _ _ _ _ _ (W5.alloc (.cells #[.string key, .int .i64 kd, .int .i64 0, .int .i64 0, .slice none 0 0, .int .i64 0, .int .i64 0, .string ⟨#[]⟩, .bool false, .int .i64 od, .int .i64 fi, .int .i64 la] 50))) at D0
  generalize W5.alloc (.cells #[.string key, .int .i64 kd, .int .i64 0, .int .i64 0, .slice none 0 0, .int .i64 0, .int .i64 0, .string ⟨#[]⟩, .bool false, .int .i64 od, .int .i64 fi, .int .i64 la] 50) = W6 at D0 ⊢
  generalize W5.heap.size = ob at *
  have hk10 := cell_h D0.out.blk 10 (v := .int .i64 fi) rfl
  have hk11 := cell_h D0.out.blk 11 (v := .int .i64 la) rfl
  have hf11 := D0.out.frz 11
  have D1 := Lib.hid (D0.out.set11 (max la (fi + 1)))
  have hw1 : IntKind.i64.wrap (fi + 1) = fi + 1 := IntWalk.i64_in _ (by omega)
  clear D0
  go_upto_region 3 with (fail)
  obtain ⟨d1, hd1⟩ : ∃ d1 : OfD, d1 = { ((⟨key, kd, 0, 0, none, 0, [], 0, 0, ⟨#[]⟩, false, od, fi, la⟩ : OfD)) with last := max la (fi + 1) } := ⟨_, rfl⟩
  have hkd : d1.kind = kd := by rw [hd1]
  rw [← hd1] at D1
  generalize W6.setCell ⟨ob, 11, none⟩ (.int .i64 (max la (fi + 1))) = W7 at D1 ⊢
  clear hk10 hk11 hf11 hw1 hd1 hfb
  have hk1 := cell_h D1.out.blk 1 (v := .int .i64 d1.kind) rfl
  rw [hkd] at hk1
  go_upto_block 0 with (fail)
  clear hk1
  go_cut [] (fun wx => ∃ d : OfD, Hid (OM w bs (K + 10) H H W ob W.heap.size d wx))
  case first =>
    have hcs : kd = 1 ∨ kd = 3 ∨ (kd ≠ 1 ∧ kd ≠ 3) := by omega
    rcases hcs with rfl | rfl | ⟨hn1, hn3⟩
    · skip
      have hne := D1.out.lw.lt
      have hIn : Ints (W7.alloc (.cells #[.int .i64 1, .int .i64 10, .int .i64 33, .int .i64 50, .int .i64 100] 3)) (some ⟨W7.heap.size, 0, none⟩) [1, 10, 33, 50, 100] := Ints.of_row (heap_at rfl) rfl
      have HIn := Lib.hid hIn
      clear hIn
      go_wp2_with fail
      refine ((D1.out.alloc _).lw.pick _ _ [1, 10, 33, 50, 100] HIn.out (fun b off e => by injection e with e; injection e with e1 e2; omega) (by simp) (by simp) (by omega)).mono ?_
      rintro e W8 ⟨x, rfl, hx, Lq, gq, -⟩
      have D2 := Lib.hid ((D1.out.alloc _).asked Lq gq)
      clear Lq gq HIn hne D1
      have D3 := Lib.hid (D2.out.set2 x)
      clear hx
      have hc2 := cell_h D2.out.blk 2 (v := .int .i64 d1.a) rfl
      have hf2 := D2.out.frz 2
      go_wp2_with fail
      go_meet
      exact ⟨_, D3.out.more (by omega)⟩
    · skip
      go_wp2_with fail
      refine (D1.out.lw.range 1 3 (by omega) (by omega) (by omega) (by omega)).mono ?_
      rintro e W8 ⟨x, rfl, x0, x1, Lq, gq, -⟩
      have D2 := Lib.hid (D1.out.asked Lq gq)
      clear Lq gq D1
      go_wp2_with fail
      refine (D2.out.lw.range 1 2 (by omega) (by omega) (by omega) (by omega)).mono ?_
      rintro e W9 ⟨y, rfl, y0, y1, Lq, gq, -⟩
      have D3 := Lib.hid (D2.out.asked Lq gq)
      clear Lq gq D2
      have D4 := Lib.hid ((D3.out.set2 x).set3 y)
      have hc2 := cell_h D3.out.blk 2 (v := .int .i64 d1.a) rfl
      have hf2 := D3.out.frz 2
      have hc3 := cell_h D3.out.blk 3 (v := .int .i64 d1.b) rfl
      have hf3 := D3.out.frz 3
      go_wp2_with fail
      go_meet
      exact ⟨_, D4.out.more (by omega)⟩
    · have q1 : (kd == 1) = false := by simpa using hn1
      have q3 : (kd == 3) = false := by simpa using hn3
      have hne := D1.out.lw.lt
      have hIn : Ints (W7.alloc (.cells #[.int .i64 1, .int .i64 100, .int .i64 500, .int .i64 5000, .int .i64 1000000000000] 3)) (some ⟨W7.heap.size, 0, none⟩) [1, 100, 500, 5000, 1000000000000] := Ints.of_row (heap_at rfl) rfl
      have HIn := Lib.hid hIn
      clear hIn
      go_wp2_with fail
      refine ((D1.out.alloc _).lw.pick _ _ [1, 100, 500, 5000, 1000000000000] HIn.out (fun b off e => by injection e with e; injection e with e1 e2; omega) (by simp) (by simp) (by omega)).mono ?_
      rintro e W8 ⟨x, rfl, hx, Lq, gq, -⟩
      have D2 := Lib.hid ((D1.out.alloc _).asked Lq gq)
      clear Lq gq HIn hne D1
      have D3 := Lib.hid (D2.out.set2 x)
      clear hx
      have hc2 := cell_h D2.out.blk 2 (v := .int .i64 d1.a) rfl
      have hf2 := D2.out.frz 2
      go_wp2_with fail
      go_meet
      exact ⟨_, D3.out.more (by omega)⟩
  case rest =>
    obtain ⟨d2, D2⟩ := hcut
    clear D1 hkd
    have hk1 := cell_h D2.out.blk 1 (v := .int .i64 d2.kind) rfl
    generalize d2.kind = kk at hk1
    go_upto_region 9 with (fail)
    go_cut [52] (fun s52 wx => ∃ t : Bool, s52 = .bool t ∧ Hid (OM w bs (K + 11) H H W ob W.heap.size d2 wx))
    case first =>
      by_cases hk4 : kk = 4
      · subst hk4
        go_wp2_with fail
        all_goals (go_meet; exact ⟨_, rfl, D2.out.more (by omega)⟩)
      · have q4 : (kk != 4) = true := by simpa using hk4
        go_wp2_with (go_at_call 15; refine (D2.out.lw.flip 2 (by omega) (by omega)).mono ?_; rintro e W' ⟨t, rfl, L', g', -⟩)
        all_goals (go_meet; first | exact ⟨_, rfl, D2.out.asked L' g'⟩ | exact ⟨_, rfl, D2.out.more (by omega)⟩)
    case rest =>
      obtain ⟨fb, rfl, D3⟩ := hcut
      clear D2 hk1
      go_upto_if 52 with (fail)
      go_cut [] (fun wx => ∃ (d : OfD) (H' : Frz), Hid (OM w bs (K + 12) H H' W ob W.heap.size d wx))
      case first =>
        cases fb with
        | false =>
          go_wp2_with fail
          go_meet
          exact ⟨_, _, D3.out.more (by omega)⟩
        | true =>
          skip
          obtain ⟨G0, l0, e0, F0⟩ := D3.out.put (.cells #[.string ⟨#[104, 97, 116]⟩] 9)
          obtain ⟨G1, l1, e1, F1⟩ := F0.put (.cells #[.string ⟨#[99, 97, 112]⟩, .string ⟨#[104, 97, 116]⟩] 9)
          rw [show (wc.alloc (.cells #[.string ⟨#[104, 97, 116]⟩] 9)).heap.size = wc.heap.size + 1 from by simp] at e1
          obtain ⟨G2, l2, e2, F2⟩ := F1.put (.cells #[.string ⟨#[115, 104, 111, 101]⟩] 9)
          rw [show ((wc.alloc (.cells #[.string ⟨#[104, 97, 116]⟩] 9)).alloc (.cells #[.string ⟨#[99, 97, 112]⟩, .string ⟨#[104, 97, 116]⟩] 9)).heap.size = wc.heap.size + 1 + 1 from by simp] at e2
          obtain ⟨G3, l3, e3, F3⟩ := F2.put (.cells #[.slice (some ⟨wc.heap.size, 0, none⟩) 1 1, .slice (some ⟨wc.heap.size + 1, 0, none⟩) 2 2, .slice (some ⟨wc.heap.size + 1 + 1, 0, none⟩) 1 1] 40)
          rw [show (((wc.alloc (.cells #[.string ⟨#[104, 97, 116]⟩] 9)).alloc (.cells #[.string ⟨#[99, 97, 112]⟩, .string ⟨#[104, 97, 116]⟩] 9)).alloc (.cells #[.string ⟨#[115, 104, 111, 101]⟩] 9)).heap.size = wc.heap.size + 1 + 1 + 1 from by simp] at e3
          have HSEL : Hid (∀ W', G3.In W' → ∀ i : Nat, i < 3 → ∃ (A : Option Addr) (ss : List ByteArray) (cap : Nat), W'.cell? ⟨wc.heap.size + 1 + 1 + 1, i, none⟩ = some (.slice A ss.length cap) ∧ Ss G3 (.slice A ss.length cap) ss) := by
            intro W' hW i hi
            match i, hi with
            | 0, _ => exact ⟨some ⟨wc.heap.size, 0, none⟩, [(⟨#[104, 97, 116]⟩ : ByteArray)], 1, cell_h (hW _ _ e3) 0 rfl, Ss.of_row (ss := [(⟨#[104, 97, 116]⟩ : ByteArray)]) (l3 _ _ (l2 _ _ (l1 _ _ e0))) rfl rfl (by intro s hs; simp only [List.mem_cons, List.not_mem_nil, or_false] at hs; rcases hs with rfl <;> decide) (by simp)⟩
            | 1, _ => exact ⟨some ⟨wc.heap.size + 1, 0, none⟩, [(⟨#[99, 97, 112]⟩ : ByteArray), (⟨#[104, 97, 116]⟩ : ByteArray)], 2, cell_h (hW _ _ e3) 1 rfl, Ss.of_row (ss := [(⟨#[99, 97, 112]⟩ : ByteArray), (⟨#[104, 97, 116]⟩ : ByteArray)]) (l3 _ _ (l2 _ _ e1)) rfl rfl (by intro s hs; simp only [List.mem_cons, List.not_mem_nil, or_false] at hs; rcases hs with rfl | rfl <;> decide) (by simp)⟩
            | 2, _ => exact ⟨some ⟨wc.heap.size + 1 + 1, 0, none⟩, [(⟨#[115, 104, 111, 101]⟩ : ByteArray)], 1, cell_h (hW _ _ e3) 2 rfl, Ss.of_row (ss := [(⟨#[115, 104, 111, 101]⟩ : ByteArray)]) (l3 _ _ e2) rfl rfl (by intro s hs; simp only [List.mem_cons, List.not_mem_nil, or_false] at hs; rcases hs with rfl <;> decide) (by simp)⟩
          have FF := Lib.hid F3
          have HLE := Lib.hid ((l0.trans (l1.trans (l2.trans l3))))
          clear e0 e1 e2 e3 l0 l1 l2 l3 F0 F1 F2 F3
          have hne := FF.out.lw.lt
          go_wp2_with fail
          refine (FF.out.lw.next' 3 (by omega) (by omega) (by omega)).mono ?_
          rintro e W5 ⟨ti, rfl, ti0, ti1, Lq, gq, -⟩
          have D4 := Lib.hid (FF.out.asked Lq gq)
          clear Lq gq hne
          obtain ⟨ti, rfl⟩ := Int.eq_ofNat_of_zero_le ti0
          obtain ⟨A_, ss_, cap_, hcell, hss⟩ := HSEL.out W5 D4.out.lw.fin ti (by omega)
          have HSS := Lib.hid hss
          clear HSEL hss
          have D5 := Lib.hid (D4.out.set4 A_ ss_ cap_ HSS.out)
          have hc4 := cell_h D4.out.blk 4 (v := .slice d2.ta d2.tags.length d2.tc) rfl
          have hf4 := D4.out.frz 4
          go_wp2_with fail
          go_meet
          exact ⟨_, _, D5.out.more (by omega)⟩
      case rest =>
        obtain ⟨d4, H4, D4⟩ := hcut
        clear D3
        have hne := D4.out.lw.lt
        have hIn : Ints (wc.alloc (.cells #[.int .i64 0, .int .i64 0, .int .i64 0, .int .i64 500, .int .i64 3000] 3)) (some ⟨wc.heap.size, 0, none⟩) [0, 0, 0, 500, 3000] := Ints.of_row (heap_at rfl) rfl
        have HIn := Lib.hid hIn
        clear hIn
        go_wp2_with fail
        refine ((D4.out.alloc _).lw.pick _ _ [0, 0, 0, 500, 3000] HIn.out (fun b off e => by injection e with e; injection e with e1 e2; omega) (by simp) (by simp) (by omega)).mono ?_
        rintro e W5 ⟨le, rfl, hle, Lq, gq, -⟩
        have D5 := Lib.hid ((D4.out.alloc _).asked Lq gq)
        clear Lq gq HIn hne D4
        have D6 := Lib.hid (D5.out.set5 le)
        clear hle
        have hc5 := cell_h D5.out.blk 5 (v := .int .i64 d4.least) rfl
        have hf5 := D5.out.frz 5
        go_upto_region 12 with (fail)
        generalize W5.setCell ⟨ob, 5, none⟩ (.int .i64 le) = W6 at D6 ⊢
        clear hc5 hf5
        generalize hd6 : ({ d4 with least := le } : OfD) = d6 at D6
        clear hd6 D5
        have hne := D6.out.lw.lt
        have hIn : Ints (W6.alloc (.cells #[.int .i64 0, .int .i64 0, .int .i64 0, .int .i64 100, .int .i64 333] 3)) (some ⟨W6.heap.size, 0, none⟩) [0, 0, 0, 100, 333] := Ints.of_row (heap_at rfl) rfl
        have HIn := Lib.hid hIn
        clear hIn
        go_wp2_with fail
        refine ((D6.out.alloc _).lw.pick _ _ [0, 0, 0, 100, 333] HIn.out (fun b off e => by injection e with e; injection e with e1 e2; omega) (by simp) (by simp) (by omega)).mono ?_
        rintro e W7 ⟨mo, rfl, hmo, Lq, gq, -⟩
        have D7 := Lib.hid ((D6.out.alloc _).asked Lq gq)
        clear Lq gq HIn hne D6
        have D8 := Lib.hid (D7.out.set6 mo)
        clear hmo
        have hc6 := cell_h D7.out.blk 6 (v := .int .i64 d6.most) rfl
        have hf6 := D7.out.frz 6
        go_upto_region 13 with (fail)
        generalize W7.setCell ⟨ob, 6, none⟩ (.int .i64 mo) = W8 at D8 ⊢
        clear hc6 hf6
        generalize hd8 : ({ d6 with most := mo } : OfD) = d8 at D8
        clear hd8 D7
        go_wp2_with fail
        refine (D8.out.lw.flip 4 (by omega) (by omega)).mono ?_
        rintro e W9 ⟨fg, rfl, Lq, gq, -⟩
        have D9 := Lib.hid (D8.out.asked Lq gq)
        clear Lq gq D8
        go_upto_if 71 with (fail)
        go_cut [] (fun wx => ∃ (d : OfD), Hid (OM w bs (K + 16) H H4 W ob W.heap.size d wx))
        case first =>
          cases fg with
          | false =>
            go_wp2_with fail
            go_meet
            exact ⟨_, D9.out.more (by omega)⟩
          | true =>
            skip
            have hne := D9.out.lw.lt
            have hSt : StrsW (W9.alloc (.cells #[.string ⟨#[103, 49]⟩, .string ⟨#[103, 50]⟩] 9)) (some ⟨W9.heap.size, 0, none⟩) [⟨#[103, 49]⟩, ⟨#[103, 50]⟩] := StrsW.of_row (heap_at rfl) rfl
            have HSt := Lib.hid hSt
            clear hSt
            go_wp2_with fail
            refine ((D9.out.alloc _).lw.one _ _ [⟨#[103, 49]⟩, ⟨#[103, 50]⟩] HSt.out (fun b off e => by injection e with e; injection e with e1 e2; omega) (by simp) (by simp) (by omega)).mono ?_
            rintro e W10 ⟨gp, rfl, hgp, Lq, gq, -⟩
            have D10 := Lib.hid ((D9.out.alloc _).asked Lq gq)
            clear Lq gq HSt hne D9
            have D11 := Lib.hid (D10.out.set7 gp (by simp at hgp; rcases hgp with rfl | rfl <;> (show (2 : Nat) ≤ 1000000; omega)))
            clear hgp
            have hc7 := cell_h D10.out.blk 7 (v := .string d8.group) rfl
            have hf7 := D10.out.frz 7
            go_wp2_with fail
            go_meet
            exact ⟨_, D11.out.more (by omega)⟩
        case rest =>
          obtain ⟨d9, D10⟩ := hcut
          clear D9
          go_wp2_with fail
          refine (D10.out.lw.flip 8 (by omega) (by omega)).mono ?_
          rintro e W11 ⟨al, rfl, Lq, gq, -⟩
          have D11 := Lib.hid (D10.out.asked Lq gq)
          clear Lq gq D10
          have D12 := Lib.hid (D11.out.set8 al)
          have hc8 := cell_h D11.out.blk 8 (v := .bool d9.alone) rfl
          have hf8 := D11.out.frz 8
          go_upto_region 16 with (fail)
          generalize W11.setCell ⟨ob, 8, none⟩ (.bool al) = W12 at D12 ⊢
          clear hc8 hf8 D11
          generalize hd12 : ({ d9 with alone := al } : OfD) = d12 at D12
          clear hd12
          have hkb := D12.out.blk
          have y0 := cell_h hkb 0 (v := .string d12.key) rfl
          have y1 := cell_h hkb 1 (v := .int .i64 d12.kind) rfl
          have y2 := cell_h hkb 2 (v := .int .i64 d12.a) rfl
          have y3 := cell_h hkb 3 (v := .int .i64 d12.b) rfl
          have y4 := cell_h hkb 4 (v := .slice d12.ta d12.tags.length d12.tc) rfl
          have y5 := cell_h hkb 5 (v := .int .i64 d12.least) rfl
          have y6 := cell_h hkb 6 (v := .int .i64 d12.most) rfl
          have y7 := cell_h hkb 7 (v := .string d12.group) rfl
          have y8 := cell_h hkb 8 (v := .bool d12.alone) rfl
          have y9 := cell_h hkb 9 (v := .int .i64 d12.order) rfl
          have y10 := cell_h hkb 10 (v := .int .i64 d12.first) rfl
          have y11 := cell_h hkb 11 (v := .int .i64 d12.last) rfl
          have hkr := D12.out.res
          have rr0 := cell_h hkr 0 (v := .string ⟨#[]⟩) rfl
          have rf0 := froz_h hkr 0
          have rr1 := cell_h hkr 1 (v := .int .i64 0) rfl
          have rf1 := froz_h hkr 1
          have rr2 := cell_h hkr 2 (v := .int .i64 0) rfl
          have rf2 := froz_h hkr 2
          have rr3 := cell_h hkr 3 (v := .int .i64 0) rfl
          have rf3 := froz_h hkr 3
          have rr4 := cell_h hkr 4 (v := .slice none 0 0) rfl
          have rf4 := froz_h hkr 4
          have rr5 := cell_h hkr 5 (v := .int .i64 0) rfl
          have rf5 := froz_h hkr 5
          have rr6 := cell_h hkr 6 (v := .int .i64 0) rfl
          have rf6 := froz_h hkr 6
          have rr7 := cell_h hkr 7 (v := .string ⟨#[]⟩) rfl
          have rf7 := froz_h hkr 7
          have rr8 := cell_h hkr 8 (v := .bool false) rfl
          have rf8 := froz_h hkr 8
          have rr9 := cell_h hkr 9 (v := .int .i64 0) rfl
          have rf9 := froz_h hkr 9
          have rr10 := cell_h hkr 10 (v := .int .i64 0) rfl
          have rf10 := froz_h hkr 10
          have rr11 := cell_h hkr 11 (v := .int .i64 0) rfl
          have rf11 := froz_h hkr 11
          go_wp2_with fail
          (try simp only [Exit.inBlock, Exit.then])
          obtain ⟨hg9, hh9⟩ := set12 hkr (.string d12.key) (.int .i64 d12.kind) (.int .i64 d12.a) (.int .i64 d12.b) (.slice d12.ta d12.tags.length d12.tc) (.int .i64 d12.least) (.int .i64 d12.most) (.string d12.group) (.bool d12.alone) (.int .i64 d12.order) (.int .i64 d12.first) (.int .i64 d12.last)
          refine bodyPost_ret (results_cell_row rfl _ _ W.heap.size 50 _ (0, 0) _ rfl hh9 Tryz.underlying50 rfl (by kernel_rfl)) rfl ?_
          refine ⟨d12, H4, rfl, D12.out.le, D12.out.old, (D12.out.lw.grown hg9 (fun q hq => by injection hq with hq; subst hq; exact ⟨D12.out.br, D12.out.hr⟩)).more (by omega), ⟨hg9.os.trans D12.out.gr.os, hg9.tape.trans D12.out.gr.tape, hg9.output.trans D12.out.gr.output, Nat.le_trans D12.out.gr.size hg9.size, fun b hb hne => ?_⟩, D12.out.ok⟩
          have := D12.out.lr
          exact (hg9.block b (Nat.lt_of_lt_of_le hb D12.out.gr.size) (fun e => by injection e with e; omega)).trans (D12.out.gr.block b hb hne)
end Go.Proofs.YtihcmifikbkbcaaGreat

/- What a stream makes: offers. -/
namespace Go.Proofs.YtihcmifikbkbcaaGreat
set_option linter.unusedVariables false
open Go.RowKit
theorem cvA (w : World) (n : Int) : (convert 3 21 (.int .i64 n)).run Tryz.prog w = .ok (.int .i32 (IntKind.wrap .i32 n)) w := by kernel_rfl
theorem cvB (w : World) (n : Int) : (convert 21 9 (.int .i32 n)).run Tryz.prog w = .ok (.string (Utf8.encode n)) w := by kernel_rfl
theorem cvS : ∀ n : Fin 256, (Utf8.encode (IntKind.wrap .i32 ((n.val : Nat) : Int))).size ≤ 4 := by decide +kernel
abbrev OfM := RM (D := OfD) 50 12 fOf
theorem RM.le {D : Type} {T k : Nat} {f : D → Nat → Value} {w wr W' : World} {bs K K' B : Nat} {H H' : Frz} {v : Value} {ds : List D} (h : RM T k f w bs K H B v ds wr) (L : Lw w bs K' H' W') (g : wr.grownBy W' (some bs)) (old : ∀ b, b < wr.heap.size → H' b = H b) : RM T k f w bs K' H' B v ds W' :=
  ⟨L, h.2.1.far g h.2.2.2.1, fun q hq => by rw [old q (h.2.1.lt hq).2]; exact h.2.2.1 q hq, h.2.2.2.1, Nat.le_trans h.2.2.2.2 g.size⟩
def OfAll (H : Frz) (ds : List OfD) : Prop := ∀ d ∈ ds, OfIn H d
theorem OfAll.le {H H' : Frz} {ds : List OfD} (h : OfAll H ds) (l : H.Le H') : OfAll H' ds := fun d hd => (h d hd).le l
theorem OfAll.snoc {H : Frz} {ds : List OfD} (h : OfAll H ds) {d : OfD} (hd : OfIn H d) : OfAll H (ds ++ [d]) := by
  intro y hy
  rcases List.mem_append.1 hy with hy | hy
  · exact h y hy
  · simp at hy; rw [hy]; exact hd
theorem OfAll.set {H : Frz} {ds : List OfD} (h : OfAll H ds) {d : OfD} {p : Nat} (hd : OfIn H d) : OfAll H (ds.set p d) := by
  intro y hy
  rcases List.mem_or_eq_of_mem_set hy with hy | hy
  · exact h y hy
  · rw [hy]; exact hd
set_option maxHeartbeats 8000000 in
set_option maxRecDepth 100000 in
theorem Lw.offers {w W : World} {bs K : Nat} {H : Frz} (h : Lw w bs K H W) (hK : K ≤ 900000) (M : Nat) (hM : M ≤ 7) :
    Calls Tryz.prog 6 #[.pointer (some ⟨bs, 0, none⟩), .int .i64 (M : Int)] W fun e W' => ∃ v H' ds, e = .returned v ∧ H.Le H' ∧ OfM w bs (K + 400) H' W.heap.size v ds W' ∧ ds.length ≤ M ∧ OfAll H' ds := by
  obtain ⟨i0, hi0, hz0, hz1, hz2⟩ := info_parts infoOf
  have hbs := h.lt
  have C0 := Lib.hid (RM.new (T := 50) (k := 12) (f := fOf) h)
  have hw0 : IntKind.i64.wrap ((M : Int) + 1) = ((M + 1 : Nat) : Int) := by rw [show (M : Int) + 1 = ((M + 1 : Nat) : Int) from by omega]; exact IntWalk.i64_in _ (by omega)
  clear h
  go_enter Tryz.func6, Tryz.ntmps6
  go_wp2_with fail
  refine (C0.out.lw.next' _ (by omega) (by omega) (by omega)).mono ?_
  rintro e W1 ⟨r, rfl, r0, r1, Lq, gq, -⟩
  have C1 := Lib.hid (C0.out.asked Lq gq)
  clear Lq gq C0 hw0
  obtain ⟨r, rfl⟩ := Int.eq_ofNat_of_zero_le r0
  have hrM : r ≤ M := by omega
  clear r0 r1
  go_wp2_with fail
  go_loopw [5, 12] (fun v t wr => ∃ (i : Nat) (H' : Frz) (ds : List OfD), i ≤ r ∧ t = .int .i64 i ∧ Hid (H.Le H') ∧ Hid (OfM w bs (K + 1 + 31 * i) H' W.heap.size v ds wr) ∧ ds.length ≤ i ∧ Hid (OfAll H' ds)) (fun _ t _ => r - (intOf t).toNat)
  case atStart => exact ⟨0, H, [], by omega, rfl, Frz.Le.refl _, C1, by simp, (by intro d hd; cases hd)⟩
  case round =>
    obtain ⟨i, H2, ds, hi, rfl, HLE, C, hdl, HAL⟩ := hrel
    clear C1
    by_cases hlt : i < r
    · have hw2 : IntKind.i64.wrap (97 + (i : Int)) = 97 + (i : Int) := IntWalk.i64_in _ (by omega)
      have hsz : (Utf8.encode (IntKind.wrap .i32 (97 + (i : Int)))).size ≤ 4 := by
        have := cvS ⟨97 + i, by omega⟩
        rw [show (((97 + i : Nat) : Nat) : Int) = 97 + (i : Int) from by omega] at this
        exact this
      have hcv1 := fun W => cvA W (97 + (i : Int))
      have hcv2 := fun W => cvB W (IntKind.wrap .i32 (97 + (i : Int)))
      have hlt2 : (i : Int) < (r : Int) := by omega
      generalize IntKind.wrap .i32 (97 + (i : Int)) = rn at *
      generalize Utf8.encode rn = en at *
      have HO := Lib.hid (C.out.lw.offer (by omega) ((⟨#[111]⟩ : ByteArray) ++ en) (by rw [ByteArray.size_append]; show 1 + en.size ≤ 1000; omega))
      go_wp2_with fail
      refine HO.out.mono ?_
      rintro e W3 ⟨d, H3, rfl, hle3, hold, Lq, gq, hd⟩
      have C2 := Lib.hid (C.out.le Lq gq hold)
      have HAL2 := Lib.hid ((HAL.out.le hle3).snoc hd)
      have HLE2 := Lib.hid (HLE.out.trans hle3)
      clear Lq gq hold hle3 hd HO C HAL HLE hcv1 hcv2
      have HOr := Lib.hid C2.out.row
      have HST := Lib.hid (fun v' W' o g1 at1 => C2.out.app (v' := v') (W' := W') (ds' := ds ++ [d]) o g1 at1)
      have hB9 := C2.out.2.2.2.2
      go_wp2_with (at_builtin; refine wpList_app_at rfl _ _ 26 rfl W.heap.size 50 i0 (.agg #[.string ⟨#[]⟩, .int .i64 0, .int .i64 0, .int .i64 0, .slice none 0 0, .int .i64 0, .int .i64 0, .string ⟨#[]⟩, .bool false, .int .i64 0, .int .i64 0, .int .i64 0]) 12 128 Tryz.underlying26 hi0 hz0 hz1 hz2 rfl (by decide) fOf _ ds rfl HOr.out d #[.string d.key, .int .i64 d.kind, .int .i64 d.a, .int .i64 d.b, .slice d.ta d.tags.length d.tc, .int .i64 d.least, .int .i64 d.most, .string d.group, .bool d.alone, .int .i64 d.order, .int .i64 d.first, .int .i64 d.last] 50 rfl rfl (by simp [Value.oneCell']) (by omega) (by omega) hB9 ?_; intro v1 w2 o1 g1 b1 at1; have CA := Lib.hid (HST.out v1 w2 o1 g1 at1); clear o1 g1 b1 at1 HST HOr)
      go_roundw
      case rel => exact ⟨i + 1, H3, _, by omega, by go_num, HLE2, CA.out.more (by omega), by simp; omega, HAL2⟩
      case measure => simp [intOf]; omega
    · have hdM : ds.length ≤ M := by omega
      go_wp2_with fail
      refine (C.out.lw.flip 10 (by omega) (by omega)).mono ?_
      rintro e W2 ⟨fl, rfl, Lq, gq, -⟩
      have C2 := Lib.hid (C.out.asked Lq gq)
      clear Lq gq C
      cases fl with
      | false =>
        go_wp2_with fail
        go_ret
        exact ⟨_, H2, ds, rfl, HLE.out, C2.out.more (by omega), hdM, HAL.out⟩
      | true =>
        by_cases hds : ds = []
        · obtain ⟨Au, capu, hu, hleu⟩ := C2.out.row.slice
          have C2' := C2
          subst hds
          simp only [List.length_nil] at hu
          subst hu
          go_wp2_with fail
          go_ret
          exact ⟨_, H2, [], rfl, HLE.out, C2'.out.more (by omega), by simp, HAL.out⟩
        · have hpos : 0 < ds.length := List.length_pos_iff.2 hds
          obtain ⟨go, capg, rest, hv, hleg, hBg, hglt, hmg, hblk, hrg⟩ := C2.out.row.form hds
          subst hv
          have hp2 : (0 : Int) < ds.length := by omega
          clear hblk hglt
          go_wp2_with fail
          refine (C2.out.lw.next' _ (by omega) (by omega) (by omega)).mono ?_
          rintro e W3 ⟨p, rfl, p0, p1, Lq, gq, -⟩
          obtain ⟨p, rfl⟩ := Int.eq_ofNat_of_zero_le p0
          have C3 := Lib.hid (C2.out.asked Lq gq)
          clear Lq gq C2
          go_wp2_with fail
          refine (C3.out.lw.next' 9 (by omega) (by omega) (by omega)).mono ?_
          rintro e W4 ⟨sw, rfl, s0, s1, Lq, gq, -⟩
          have C4 := Lib.hid (C3.out.asked Lq gq)
          clear Lq gq C3
          have hcs : sw = 0 ∨ sw = 1 ∨ sw = 2 ∨ sw = 3 ∨ sw = 4 ∨ sw = 5 ∨ sw = 6 ∨ sw = 7 ∨ sw = 8 := by omega
          have hpl : p < ds.length := by omega
          have hkp := HAL.out _ (List.getElem_mem hpl)
          rcases hcs with rfl | rfl | rfl | rfl | rfl | rfl | rfl | rfl | rfl
          · skip
            have hne := C4.out.lw.lt
            have hSt : StrsW (W4.alloc (.cells #[.string ⟨#[]⟩, .string ⟨#[111, 97]⟩, .string ⟨#[79]⟩] 9)) (some ⟨W4.heap.size, 0, none⟩) [⟨#[]⟩, ⟨#[111, 97]⟩, ⟨#[79]⟩] := StrsW.of_row (heap_at rfl) rfl
            have HSt := Lib.hid hSt
            clear hSt
            go_wp2_with fail
            refine ((C4.out.alloc _).lw.one _ _ [⟨#[]⟩, ⟨#[111, 97]⟩, ⟨#[79]⟩] HSt.out (fun b off e => by injection e with e; injection e with e1 e2; omega) (by simp) (by simp) (by omega)).mono ?_
            rintro e W5 ⟨x, rfl, hx, Lq, gq, -⟩
            have C5 := Lib.hid ((C4.out.alloc _).asked Lq gq)
            clear Lq gq HSt hne C4
            obtain ⟨cell1, fr1, hfin⟩ := C5.out.upd hpl (j := 0) (by omega) (({ ds[p] with key := x } : OfD)) (x := .string x) rfl (by intro m hm hne; have : m = 1 ∨ m = 2 ∨ m = 3 ∨ m = 4 ∨ m = 5 ∨ m = 6 ∨ m = 7 ∨ m = 8 ∨ m = 9 ∨ m = 10 ∨ m = 11 := (by omega); rcases this with rfl | rfl | rfl | rfl | rfl | rfl | rfl | rfl | rfl | rfl | rfl <;> rfl)
            simp only [Nat.add_zero] at cell1 fr1 hfin
            have HFIN := Lib.hid hfin
            have HAL2 := Lib.hid (HAL.out.set (p := p) (d := ({ ds[p] with key := x } : OfD)) ⟨hkp.tags, (by have hz : x.size ≤ 10 := (by simp at hx; rcases hx with rfl | rfl | rfl <;> decide); show x.size ≤ 1000000; omega), hkp.group⟩)
            clear hfin
            go_wp2_with fail
            go_ret
            exact ⟨_, H2, _, rfl, HLE.out, HFIN.out.more (by omega), by simpa using hdM, HAL2.out⟩
          · skip
            go_wp2_with fail
            refine (C4.out.lw.range 0 5 (by omega) (by omega) (by omega) (by omega)).mono ?_
            rintro e W5 ⟨x, rfl, x0, x1, Lq, gq, -⟩
            have C5 := Lib.hid (C4.out.asked Lq gq)
            clear Lq gq C4
            obtain ⟨cell1, fr1, hfin⟩ := C5.out.upd hpl (j := 1) (by omega) (({ ds[p] with kind := x } : OfD)) (x := .int .i64 x) rfl (by intro m hm hne; have : m = 0 ∨ m = 2 ∨ m = 3 ∨ m = 4 ∨ m = 5 ∨ m = 6 ∨ m = 7 ∨ m = 8 ∨ m = 9 ∨ m = 10 ∨ m = 11 := (by omega); rcases this with rfl | rfl | rfl | rfl | rfl | rfl | rfl | rfl | rfl | rfl | rfl <;> rfl)
            have HFIN := Lib.hid hfin
            have HAL2 := Lib.hid (HAL.out.set (p := p) (d := ({ ds[p] with kind := x } : OfD)) ⟨hkp.tags, hkp.key, hkp.group⟩)
            clear hfin
            go_wp2_with fail
            go_ret
            exact ⟨_, H2, _, rfl, HLE.out, HFIN.out.more (by omega), by simpa using hdM, HAL2.out⟩
          · skip
            have hne := C4.out.lw.lt
            have hIn : Ints (W4.alloc (.cells #[.int .i64 0, .int .i64 101, .int .i64 21, .int .i64 1000000000001, .int .i64 (-1)] 3)) (some ⟨W4.heap.size, 0, none⟩) [0, 101, 21, 1000000000001, -1] := Ints.of_row (heap_at rfl) rfl
            have HIn := Lib.hid hIn
            clear hIn
            go_wp2_with fail
            refine ((C4.out.alloc _).lw.pick _ _ [0, 101, 21, 1000000000001, -1] HIn.out (fun b off e => by injection e with e; injection e with e1 e2; omega) (by simp) (by simp) (by omega)).mono ?_
            rintro e W5 ⟨x, rfl, hx, Lq, gq, -⟩
            have C5 := Lib.hid ((C4.out.alloc _).asked Lq gq)
            clear Lq gq HIn hne C4
            obtain ⟨cell1, fr1, hfin⟩ := C5.out.upd hpl (j := 2) (by omega) (({ ds[p] with a := x } : OfD)) (x := .int .i64 x) rfl (by intro m hm hne; have : m = 0 ∨ m = 1 ∨ m = 3 ∨ m = 4 ∨ m = 5 ∨ m = 6 ∨ m = 7 ∨ m = 8 ∨ m = 9 ∨ m = 10 ∨ m = 11 := (by omega); rcases this with rfl | rfl | rfl | rfl | rfl | rfl | rfl | rfl | rfl | rfl | rfl <;> rfl)
            have HFIN := Lib.hid hfin
            have HAL2 := Lib.hid (HAL.out.set (p := p) (d := ({ ds[p] with a := x } : OfD)) ⟨hkp.tags, hkp.key, hkp.group⟩)
            clear hfin
            go_wp2_with fail
            go_ret
            exact ⟨_, H2, _, rfl, HLE.out, HFIN.out.more (by omega), by simpa using hdM, HAL2.out⟩
          · skip
            have hne := C4.out.lw.lt
            have hIn : Ints (W4.alloc (.cells #[.int .i64 0, .int .i64 1, .int .i64 21, .int .i64 (-1)] 3)) (some ⟨W4.heap.size, 0, none⟩) [0, 1, 21, -1] := Ints.of_row (heap_at rfl) rfl
            have HIn := Lib.hid hIn
            clear hIn
            go_wp2_with fail
            refine ((C4.out.alloc _).lw.pick _ _ [0, 1, 21, -1] HIn.out (fun b off e => by injection e with e; injection e with e1 e2; omega) (by simp) (by simp) (by omega)).mono ?_
            rintro e W5 ⟨x, rfl, hx, Lq, gq, -⟩
            have C5 := Lib.hid ((C4.out.alloc _).asked Lq gq)
            clear Lq gq HIn hne C4
            obtain ⟨cell1, fr1, hfin⟩ := C5.out.upd hpl (j := 3) (by omega) (({ ds[p] with b := x } : OfD)) (x := .int .i64 x) rfl (by intro m hm hne; have : m = 0 ∨ m = 1 ∨ m = 2 ∨ m = 4 ∨ m = 5 ∨ m = 6 ∨ m = 7 ∨ m = 8 ∨ m = 9 ∨ m = 10 ∨ m = 11 := (by omega); rcases this with rfl | rfl | rfl | rfl | rfl | rfl | rfl | rfl | rfl | rfl | rfl <;> rfl)
            have HFIN := Lib.hid hfin
            have HAL2 := Lib.hid (HAL.out.set (p := p) (d := ({ ds[p] with b := x } : OfD)) ⟨hkp.tags, hkp.key, hkp.group⟩)
            clear hfin
            go_wp2_with fail
            go_ret
            exact ⟨_, H2, _, rfl, HLE.out, HFIN.out.more (by omega), by simpa using hdM, HAL2.out⟩
          · skip
            have hne := C4.out.lw.lt
            have hIn : Ints (W4.alloc (.cells #[.int .i64 (-1), .int .i64 0, .int .i64 1000000000001] 3)) (some ⟨W4.heap.size, 0, none⟩) [-1, 0, 1000000000001] := Ints.of_row (heap_at rfl) rfl
            have HIn := Lib.hid hIn
            clear hIn
            go_wp2_with fail
            refine ((C4.out.alloc _).lw.pick _ _ [-1, 0, 1000000000001] HIn.out (fun b off e => by injection e with e; injection e with e1 e2; omega) (by simp) (by simp) (by omega)).mono ?_
            rintro e W5 ⟨x, rfl, hx, Lq, gq, -⟩
            have C5 := Lib.hid ((C4.out.alloc _).asked Lq gq)
            clear Lq gq HIn hne C4
            clear hx
            have hne := C5.out.lw.lt
            have hIn : Ints (W5.alloc (.cells #[.int .i64 (-1), .int .i64 0] 3)) (some ⟨W5.heap.size, 0, none⟩) [-1, 0] := Ints.of_row (heap_at rfl) rfl
            have HIn := Lib.hid hIn
            clear hIn
            go_wp2_with fail
            refine ((C5.out.alloc _).lw.pick _ _ [-1, 0] HIn.out (fun b off e => by injection e with e; injection e with e1 e2; omega) (by simp) (by simp) (by omega)).mono ?_
            rintro e W6 ⟨y, rfl, hy, Lq, gq, -⟩
            have C6 := Lib.hid ((C5.out.alloc _).asked Lq gq)
            clear Lq gq HIn hne C5
            clear hy
            obtain ⟨cell1, fr1, cell2, fr2, hfin⟩ := C6.out.upd2 hpl (i := 5) (j := 6) (by omega) (by omega) (by omega) ({ ds[p] with least := x } : OfD) ({ ds[p] with least := x, most := y } : OfD) (x := .int .i64 x) (y := .int .i64 y) rfl rfl (by intro m hm hne; have : m = 0 ∨ m = 1 ∨ m = 2 ∨ m = 3 ∨ m = 4 ∨ m = 6 ∨ m = 7 ∨ m = 8 ∨ m = 9 ∨ m = 10 ∨ m = 11 := (by omega); rcases this with rfl | rfl | rfl | rfl | rfl | rfl | rfl | rfl | rfl | rfl | rfl <;> rfl) (by intro m hm hne; have : m = 0 ∨ m = 1 ∨ m = 2 ∨ m = 3 ∨ m = 4 ∨ m = 5 ∨ m = 7 ∨ m = 8 ∨ m = 9 ∨ m = 10 ∨ m = 11 := (by omega); rcases this with rfl | rfl | rfl | rfl | rfl | rfl | rfl | rfl | rfl | rfl | rfl <;> rfl)
            have HFIN := Lib.hid hfin
            have HAL2 := Lib.hid (HAL.out.set (p := p) (d := ({ ds[p] with least := x, most := y } : OfD)) ⟨hkp.tags, hkp.key, hkp.group⟩)
            clear hfin
            go_wp2_with fail
            go_ret
            exact ⟨_, H2, _, rfl, HLE.out, HFIN.out.more (by omega), by simpa using hdM, HAL2.out⟩
          · skip
            have hne := C4.out.lw.lt
            have hIn : Ints (W4.alloc (.cells #[.int .i64 (-1), .int .i64 4321440, .int .i64 5] 3)) (some ⟨W4.heap.size, 0, none⟩) [-1, 4321440, 5] := Ints.of_row (heap_at rfl) rfl
            have HIn := Lib.hid hIn
            clear hIn
            go_wp2_with fail
            refine ((C4.out.alloc _).lw.pick _ _ [-1, 4321440, 5] HIn.out (fun b off e => by injection e with e; injection e with e1 e2; omega) (by simp) (by simp) (by omega)).mono ?_
            rintro e W5 ⟨x, rfl, hx, Lq, gq, -⟩
            have C5 := Lib.hid ((C4.out.alloc _).asked Lq gq)
            clear Lq gq HIn hne C4
            clear hx
            have hne := C5.out.lw.lt
            have hIn : Ints (W5.alloc (.cells #[.int .i64 5, .int .i64 6, .int .i64 4321441] 3)) (some ⟨W5.heap.size, 0, none⟩) [5, 6, 4321441] := Ints.of_row (heap_at rfl) rfl
            have HIn := Lib.hid hIn
            clear hIn
            go_wp2_with fail
            refine ((C5.out.alloc _).lw.pick _ _ [5, 6, 4321441] HIn.out (fun b off e => by injection e with e; injection e with e1 e2; omega) (by simp) (by simp) (by omega)).mono ?_
            rintro e W6 ⟨y, rfl, hy, Lq, gq, -⟩
            have C6 := Lib.hid ((C5.out.alloc _).asked Lq gq)
            clear Lq gq HIn hne C5
            clear hy
            obtain ⟨cell1, fr1, cell2, fr2, hfin⟩ := C6.out.upd2 hpl (i := 10) (j := 11) (by omega) (by omega) (by omega) ({ ds[p] with first := x } : OfD) ({ ds[p] with first := x, last := y } : OfD) (x := .int .i64 x) (y := .int .i64 y) rfl rfl (by intro m hm hne; have : m = 0 ∨ m = 1 ∨ m = 2 ∨ m = 3 ∨ m = 4 ∨ m = 5 ∨ m = 6 ∨ m = 7 ∨ m = 8 ∨ m = 9 ∨ m = 11 := (by omega); rcases this with rfl | rfl | rfl | rfl | rfl | rfl | rfl | rfl | rfl | rfl | rfl <;> rfl) (by intro m hm hne; have : m = 0 ∨ m = 1 ∨ m = 2 ∨ m = 3 ∨ m = 4 ∨ m = 5 ∨ m = 6 ∨ m = 7 ∨ m = 8 ∨ m = 9 ∨ m = 10 := (by omega); rcases this with rfl | rfl | rfl | rfl | rfl | rfl | rfl | rfl | rfl | rfl | rfl <;> rfl)
            have HFIN := Lib.hid hfin
            have HAL2 := Lib.hid (HAL.out.set (p := p) (d := ({ ds[p] with first := x, last := y } : OfD)) ⟨hkp.tags, hkp.key, hkp.group⟩)
            clear hfin
            go_wp2_with fail
            go_ret
            exact ⟨_, H2, _, rfl, HLE.out, HFIN.out.more (by omega), by simpa using hdM, HAL2.out⟩
          · skip
            have hne := C4.out.lw.lt
            have hSt : StrsW (W4.alloc (.cells #[.string ⟨#[71]⟩, .string ⟨#[103, 49]⟩] 9)) (some ⟨W4.heap.size, 0, none⟩) [⟨#[71]⟩, ⟨#[103, 49]⟩] := StrsW.of_row (heap_at rfl) rfl
            have HSt := Lib.hid hSt
            clear hSt
            go_wp2_with fail
            refine ((C4.out.alloc _).lw.one _ _ [⟨#[71]⟩, ⟨#[103, 49]⟩] HSt.out (fun b off e => by injection e with e; injection e with e1 e2; omega) (by simp) (by simp) (by omega)).mono ?_
            rintro e W5 ⟨x, rfl, hx, Lq, gq, -⟩
            have C5 := Lib.hid ((C4.out.alloc _).asked Lq gq)
            clear Lq gq HSt hne C4
            obtain ⟨cell1, fr1, hfin⟩ := C5.out.upd hpl (j := 7) (by omega) (({ ds[p] with group := x } : OfD)) (x := .string x) rfl (by intro m hm hne; have : m = 0 ∨ m = 1 ∨ m = 2 ∨ m = 3 ∨ m = 4 ∨ m = 5 ∨ m = 6 ∨ m = 8 ∨ m = 9 ∨ m = 10 ∨ m = 11 := (by omega); rcases this with rfl | rfl | rfl | rfl | rfl | rfl | rfl | rfl | rfl | rfl | rfl <;> rfl)
            have HFIN := Lib.hid hfin
            have HAL2 := Lib.hid (HAL.out.set (p := p) (d := ({ ds[p] with group := x } : OfD)) ⟨hkp.tags, hkp.key, (by have hz : x.size ≤ 10 := (by simp at hx; rcases hx with rfl | rfl <;> decide); show x.size ≤ 1000000; omega)⟩)
            clear hfin
            go_wp2_with fail
            go_ret
            exact ⟨_, H2, _, rfl, HLE.out, HFIN.out.more (by omega), by simpa using hdM, HAL2.out⟩
          · skip
            obtain ⟨G0, l0, e0, F0⟩ := C4.out.put (.cells #[.string ⟨#[72, 97, 116]⟩] 9)
            obtain ⟨G1, l1, e1, F1⟩ := F0.put (.cells #[.string ⟨#[104, 97, 116]⟩, .string ⟨#[99, 97, 112]⟩] 9)
            rw [show (W4.alloc (.cells #[.string ⟨#[72, 97, 116]⟩] 9)).heap.size = W4.heap.size + 1 from by simp] at e1
            obtain ⟨G2, l2, e2, F2⟩ := F1.put (.cells #[.string ⟨#[97]⟩, .string ⟨#[98]⟩, .string ⟨#[99]⟩, .string ⟨#[100]⟩, .string ⟨#[101]⟩, .string ⟨#[102]⟩, .string ⟨#[103]⟩, .string ⟨#[104]⟩, .string ⟨#[105]⟩, .string ⟨#[106]⟩, .string ⟨#[107]⟩] 9)
            rw [show ((W4.alloc (.cells #[.string ⟨#[72, 97, 116]⟩] 9)).alloc (.cells #[.string ⟨#[104, 97, 116]⟩, .string ⟨#[99, 97, 112]⟩] 9)).heap.size = W4.heap.size + 1 + 1 from by simp] at e2
            obtain ⟨G3, l3, e3, F3⟩ := F2.put (.cells #[.slice (some ⟨W4.heap.size, 0, none⟩) 1 1, .slice (some ⟨W4.heap.size + 1, 0, none⟩) 2 2, .slice (some ⟨W4.heap.size + 1 + 1, 0, none⟩) 11 11] 40)
            rw [show (((W4.alloc (.cells #[.string ⟨#[72, 97, 116]⟩] 9)).alloc (.cells #[.string ⟨#[104, 97, 116]⟩, .string ⟨#[99, 97, 112]⟩] 9)).alloc (.cells #[.string ⟨#[97]⟩, .string ⟨#[98]⟩, .string ⟨#[99]⟩, .string ⟨#[100]⟩, .string ⟨#[101]⟩, .string ⟨#[102]⟩, .string ⟨#[103]⟩, .string ⟨#[104]⟩, .string ⟨#[105]⟩, .string ⟨#[106]⟩, .string ⟨#[107]⟩] 9)).heap.size = W4.heap.size + 1 + 1 + 1 from by simp] at e3
            have HSEL : Hid (∀ W', G3.In W' → ∀ i : Nat, i < 3 → ∃ (A : Option Addr) (ss : List ByteArray) (cap : Nat), W'.cell? ⟨W4.heap.size + 1 + 1 + 1, i, none⟩ = some (.slice A ss.length cap) ∧ Ss G3 (.slice A ss.length cap) ss) := by
              intro W' hW i hi
              match i, hi with
              | 0, _ => exact ⟨some ⟨W4.heap.size, 0, none⟩, [(⟨#[72, 97, 116]⟩ : ByteArray)], 1, cell_h (hW _ _ e3) 0 rfl, Ss.of_row (ss := [(⟨#[72, 97, 116]⟩ : ByteArray)]) (l3 _ _ (l2 _ _ (l1 _ _ e0))) rfl rfl (by intro s hs; simp only [List.mem_cons, List.not_mem_nil, or_false] at hs; rcases hs with rfl <;> decide) (by simp)⟩
              | 1, _ => exact ⟨some ⟨W4.heap.size + 1, 0, none⟩, [(⟨#[104, 97, 116]⟩ : ByteArray), (⟨#[99, 97, 112]⟩ : ByteArray)], 2, cell_h (hW _ _ e3) 1 rfl, Ss.of_row (ss := [(⟨#[104, 97, 116]⟩ : ByteArray), (⟨#[99, 97, 112]⟩ : ByteArray)]) (l3 _ _ (l2 _ _ e1)) rfl rfl (by intro s hs; simp only [List.mem_cons, List.not_mem_nil, or_false] at hs; rcases hs with rfl | rfl <;> decide) (by simp)⟩
              | 2, _ => exact ⟨some ⟨W4.heap.size + 1 + 1, 0, none⟩, [(⟨#[97]⟩ : ByteArray), (⟨#[98]⟩ : ByteArray), (⟨#[99]⟩ : ByteArray), (⟨#[100]⟩ : ByteArray), (⟨#[101]⟩ : ByteArray), (⟨#[102]⟩ : ByteArray), (⟨#[103]⟩ : ByteArray), (⟨#[104]⟩ : ByteArray), (⟨#[105]⟩ : ByteArray), (⟨#[106]⟩ : ByteArray), (⟨#[107]⟩ : ByteArray)], 11, cell_h (hW _ _ e3) 2 rfl, Ss.of_row (ss := [(⟨#[97]⟩ : ByteArray), (⟨#[98]⟩ : ByteArray), (⟨#[99]⟩ : ByteArray), (⟨#[100]⟩ : ByteArray), (⟨#[101]⟩ : ByteArray), (⟨#[102]⟩ : ByteArray), (⟨#[103]⟩ : ByteArray), (⟨#[104]⟩ : ByteArray), (⟨#[105]⟩ : ByteArray), (⟨#[106]⟩ : ByteArray), (⟨#[107]⟩ : ByteArray)]) (l3 _ _ e2) rfl rfl (by intro s hs; simp only [List.mem_cons, List.not_mem_nil, or_false] at hs; rcases hs with rfl | rfl | rfl | rfl | rfl | rfl | rfl | rfl | rfl | rfl | rfl <;> decide) (by simp)⟩
            have FF := Lib.hid F3
            have HLET := Lib.hid ((l0.trans (l1.trans (l2.trans l3))))
            clear e0 e1 e2 e3 l0 l1 l2 l3 F0 F1 F2 F3
            have hne := FF.out.lw.lt
            go_wp2_with fail
            refine (FF.out.lw.next' 3 (by omega) (by omega) (by omega)).mono ?_
            rintro e W5 ⟨ti, rfl, ti0, ti1, Lq, gq, -⟩
            have C5 := Lib.hid (FF.out.asked Lq gq)
            clear Lq gq hne
            obtain ⟨ti, rfl⟩ := Int.eq_ofNat_of_zero_le ti0
            obtain ⟨A_, ss_, cap_, hcell, hss⟩ := HSEL.out W5 C5.out.lw.fin ti (by omega)
            have HSS := Lib.hid hss
            clear HSEL hss
            have HLE2 := Lib.hid (HLE.out.trans HLET.out)
            have HAL3 := Lib.hid (HAL.out.le HLET.out)
            have hkp3 := hkp.le HLET.out
            obtain ⟨cell1, fr1, hfin⟩ := C5.out.upd hpl (j := 4) (by omega) (({ ds[p] with ta := A_, tc := cap_, tags := ss_ } : OfD)) (x := .slice A_ ss_.length cap_) rfl (by intro m hm hne; have : m = 0 ∨ m = 1 ∨ m = 2 ∨ m = 3 ∨ m = 5 ∨ m = 6 ∨ m = 7 ∨ m = 8 ∨ m = 9 ∨ m = 10 ∨ m = 11 := (by omega); rcases this with rfl | rfl | rfl | rfl | rfl | rfl | rfl | rfl | rfl | rfl | rfl <;> rfl)
            have HFIN := Lib.hid hfin
            have HAL2 := Lib.hid (HAL3.out.set (p := p) (d := ({ ds[p] with ta := A_, tc := cap_, tags := ss_ } : OfD)) ⟨HSS.out, hkp3.key, hkp3.group⟩)
            clear hfin
            go_wp2_with fail
            go_ret
            exact ⟨_, G3, _, rfl, HLE2.out, HFIN.out.more (by omega), by simpa using hdM, HAL2.out⟩
          · skip
            have hne := C4.out.lw.lt
            have hIn : Ints (W4.alloc (.cells #[.int .i64 (-1), .int .i64 1001] 3)) (some ⟨W4.heap.size, 0, none⟩) [-1, 1001] := Ints.of_row (heap_at rfl) rfl
            have HIn := Lib.hid hIn
            clear hIn
            go_wp2_with fail
            refine ((C4.out.alloc _).lw.pick _ _ [-1, 1001] HIn.out (fun b off e => by injection e with e; injection e with e1 e2; omega) (by simp) (by simp) (by omega)).mono ?_
            rintro e W5 ⟨x, rfl, hx, Lq, gq, -⟩
            have C5 := Lib.hid ((C4.out.alloc _).asked Lq gq)
            clear Lq gq HIn hne C4
            obtain ⟨cell1, fr1, hfin⟩ := C5.out.upd hpl (j := 9) (by omega) (({ ds[p] with order := x } : OfD)) (x := .int .i64 x) rfl (by intro m hm hne; have : m = 0 ∨ m = 1 ∨ m = 2 ∨ m = 3 ∨ m = 4 ∨ m = 5 ∨ m = 6 ∨ m = 7 ∨ m = 8 ∨ m = 10 ∨ m = 11 := (by omega); rcases this with rfl | rfl | rfl | rfl | rfl | rfl | rfl | rfl | rfl | rfl | rfl <;> rfl)
            have HFIN := Lib.hid hfin
            have HAL2 := Lib.hid (HAL.out.set (p := p) (d := ({ ds[p] with order := x } : OfD)) ⟨hkp.tags, hkp.key, hkp.group⟩)
            clear hfin
            go_wp2_with fail
            go_ret
            exact ⟨_, H2, _, rfl, HLE.out, HFIN.out.more (by omega), by simpa using hdM, HAL2.out⟩
end Go.Proofs.YtihcmifikbkbcaaGreat

/- What a stream makes: a basket. -/
namespace Go.Proofs.YtihcmifikbkbcaaGreat
set_option linter.unusedVariables false
open Go.RowKit
theorem infoIt : (Tryz.prog.info? 42).map (fun i => (i.zero, i.size, i.bytes)) = some (some (.agg #[.string ⟨#[]⟩, .int .i64 0, .int .i64 0, .slice none 0 0]), 4, 56) := by kernel_rfl
abbrev ItM := RM (D := ItD) 42 4 fIt
def ItAll (H : Frz) (ds : List ItD) : Prop := ∀ d ∈ ds, ItIn H d
theorem ItAll.le {H H' : Frz} {ds : List ItD} (h : ItAll H ds) (l : H.Le H') : ItAll H' ds := fun d hd => (h d hd).le l
theorem ItAll.snoc {H : Frz} {ds : List ItD} (h : ItAll H ds) {d : ItD} (hd : ItIn H d) : ItAll H (ds ++ [d]) := by
  intro y hy
  rcases List.mem_append.1 hy with hy | hy
  · exact h y hy
  · simp at hy; rw [hy]; exact hd
theorem ItAll.set {H : Frz} {ds : List ItD} (h : ItAll H ds) {d : ItD} {p : Nat} (hd : ItIn H d) : ItAll H (ds.set p d) := by
  intro y hy
  rcases List.mem_or_eq_of_mem_set hy with hy | hy
  · exact h y hy
  · rw [hy]; exact hd
/-- A block of the call's own beside the stream. -/
structure Bk (bs : Nat) (H : Frz) (b : Nat) (o : Obj) (wr : World) : Prop where
  at_ : wr.heap[b]? = some o
  ne : bs < b
  no : H b = none
/-- A basket in the making. -/
structure BM (w : World) (bs K : Nat) (H : Frz) (bb rb : Nat) (v : Value) (ship : Int) (ds : List ItD) (wr : World) : Prop where
  rm : ItM w bs K H (bb + 1) v ds wr
  blk : Bk bs H bb (.cells #[v, .int .i64 ship] 30 (0, 0)) wr
  res : Bk bs H rb (.cells #[.slice none 0 0, .int .i64 0] 30 (0, 0)) wr
  rlt : rb < bb
/-- An item in the making beside it. -/
structure BI (w : World) (bs K : Nat) (H : Frz) (bb rb : Nat) (v : Value) (ship : Int) (ds : List ItD) (ib : Nat) (d : ItD) (wr : World) : Prop where
  bm : BM w bs K H bb rb v ship ds wr
  iblk : Bk bs H ib (.cells #[.string d.key, .int .i64 d.cents, .int .i64 d.many, .slice d.ta d.tags.length d.tc] 42 (0, 0)) wr
  gt : bb < ib
  own : v.ownBlock ≠ some ib
section
variable {w wr W' : World} {bs K K' bb rb ib b : Nat} {H : Frz} {v : Value} {ship : Int} {ds : List ItD} {d : ItD} {o : Obj}
theorem Bk.call (h : Bk bs H b o wr) (hb : Below wr.heap.size wr W') : Bk bs H b o W' := ⟨(hb.block _ (lt_of_heap h.at_)).trans h.at_, h.ne, h.no⟩
theorem Bk.asked (h : Bk bs H b o wr) (g : wr.grownBy W' (some bs)) : Bk bs H b o W' := ⟨(g.block _ (lt_of_heap h.at_) (fun e => by injection e with e; have := h.ne; omega)).trans h.at_, h.ne, h.no⟩
theorem Bk.grown (h : Bk bs H b o wr) {r : Option Nat} (g : wr.grownBy W' r) (hr : r ≠ some b) : Bk bs H b o W' := ⟨(g.block _ (lt_of_heap h.at_) (fun e => hr e.symm)).trans h.at_, h.ne, h.no⟩
theorem Bk.put (h : Bk bs H b o wr) (hn : H wr.heap.size = none) (o' : Obj) : Bk bs (H.add wr.heap.size o') b o (wr.alloc o') := ⟨(h.call (new1 _)).at_, h.ne, by rw [Frz.add_other (by have := lt_of_heap h.at_; omega)]; exact h.no⟩
theorem BM.lw (h : BM w bs K H bb rb v ship ds wr) : Lw w bs K H wr := h.rm.lw
theorem BM.more (h : BM w bs K H bb rb v ship ds wr) (hK : K ≤ K') : BM w bs K' H bb rb v ship ds wr := ⟨h.rm.more hK, h.blk, h.res, h.rlt⟩
theorem BM.call (h : BM w bs K H bb rb v ship ds wr) (hb : Below wr.heap.size wr W') : BM w bs K H bb rb v ship ds W' := ⟨h.rm.call hb, h.blk.call hb, h.res.call hb, h.rlt⟩
theorem BM.alloc (h : BM w bs K H bb rb v ship ds wr) (o : Obj) : BM w bs K H bb rb v ship ds (wr.alloc o) := h.call (new1 o)
theorem BM.asked (h : BM w bs K H bb rb v ship ds wr) (L : Lw w bs K' H W') (g : wr.grownBy W' (some bs)) : BM w bs K' H bb rb v ship ds W' := ⟨h.rm.asked L g, h.blk.asked g, h.res.asked g, h.rlt⟩
theorem BM.put (h : BM w bs K H bb rb v ship ds wr) (o : Obj) : ∃ H', H.Le H' ∧ H' wr.heap.size = some o ∧ BM w bs K H' bb rb v ship ds (wr.alloc o) := by
  have hn := h.lw.fin.none_ (Nat.le_refl _)
  refine ⟨H.add wr.heap.size o, Frz.le_add hn, Frz.add_at _ _ _, ⟨⟨(h.lw.alloc o).keep (heap_at rfl) (by have := h.lw.lt; omega), (h.rm.alloc o).2.1, ?_, (h.rm.alloc o).2.2.2⟩, h.blk.put hn o, h.res.put hn o, h.rlt⟩⟩
  intro g hg
  rw [Frz.add_other (by have := (h.rm.2.1.lt hg).2; omega)]
  exact h.rm.2.2.1 g hg
theorem BI.lw (h : BI w bs K H bb rb v ship ds ib d wr) : Lw w bs K H wr := h.bm.lw
theorem BI.more (h : BI w bs K H bb rb v ship ds ib d wr) (hK : K ≤ K') : BI w bs K' H bb rb v ship ds ib d wr := ⟨h.bm.more hK, h.iblk, h.gt, h.own⟩
theorem BI.call (h : BI w bs K H bb rb v ship ds ib d wr) (hb : Below wr.heap.size wr W') : BI w bs K H bb rb v ship ds ib d W' := ⟨h.bm.call hb, h.iblk.call hb, h.gt, h.own⟩
theorem BI.alloc (h : BI w bs K H bb rb v ship ds ib d wr) (o : Obj) : BI w bs K H bb rb v ship ds ib d (wr.alloc o) := h.call (new1 o)
theorem BI.asked (h : BI w bs K H bb rb v ship ds ib d wr) (L : Lw w bs K' H W') (g : wr.grownBy W' (some bs)) : BI w bs K' H bb rb v ship ds ib d W' := ⟨h.bm.asked L g, h.iblk.asked g, h.gt, h.own⟩
theorem BI.put (h : BI w bs K H bb rb v ship ds ib d wr) (o : Obj) : ∃ H', H.Le H' ∧ H' wr.heap.size = some o ∧ BI w bs K H' bb rb v ship ds ib d (wr.alloc o) := by
  have hn := h.lw.fin.none_ (Nat.le_refl _)
  refine ⟨H.add wr.heap.size o, Frz.le_add hn, Frz.add_at _ _ _, ⟨⟨⟨(h.lw.alloc o).keep (heap_at rfl) (by have := h.lw.lt; omega), (h.bm.rm.alloc o).2.1, ?_, (h.bm.rm.alloc o).2.2.2⟩, h.bm.blk.put hn o, h.bm.res.put hn o, h.bm.rlt⟩, h.iblk.put hn o, h.gt, h.own⟩⟩
  intro g hg
  rw [Frz.add_other (by have := (h.bm.rm.2.1.lt hg).2; omega)]
  exact h.bm.rm.2.2.1 g hg
theorem BI.new (h : BM w bs K H bb rb v ship ds wr) (d : ItD) : BI w bs K H bb rb v ship ds wr.heap.size d (wr.alloc (.cells #[.string d.key, .int .i64 d.cents, .int .i64 d.many, .slice d.ta d.tags.length d.tc] 42)) :=
  ⟨h.alloc _, ⟨heap_at rfl, h.lw.lt, h.lw.fin.none_ (Nat.le_refl _)⟩, lt_of_heap h.blk.at_, fun e => by have := (h.rm.2.1.lt e).2; omega⟩
theorem grown_one (wr : World) (r j : Nat) (x : Value) : wr.grownBy (wr.setCell ⟨r, j, none⟩ x) (some r) := grown_setc (World.grownBy.refl _ _) j x
theorem BM.set (h : BM w bs K H bb rb v ship ds wr) {r : Nat} (hr : bs < r) (hn : H r = none) (hb : r ≠ bb) (hrb : r ≠ rb) (hv : v.ownBlock ≠ some r) (j : Nat) (x : Value) : BM w bs K H bb rb v ship ds (wr.setCell ⟨r, j, none⟩ x) := by
  have g := grown_one wr r j x
  refine ⟨⟨h.lw.grown g (fun q hq => by injection hq with hq; subst hq; exact ⟨hr, hn⟩), h.rm.2.1.kept g (Or.inr hv), h.rm.2.2.1, h.rm.2.2.2.1, by have := h.rm.2.2.2.2; simpa [World.setCell] using this⟩, h.blk.grown g (by simpa using hb), h.res.grown g (by simpa using hrb), h.rlt⟩
theorem BI.tags (h : BI w bs K H bb rb v ship ds ib d wr) (A : Option Addr) (ss : List ByteArray) (cap : Nat) : BI w bs K H bb rb v ship ds ib { d with ta := A, tc := cap, tags := ss } (wr.setCell ⟨ib, 3, none⟩ (.slice A ss.length cap)) :=
  ⟨h.bm.set h.iblk.ne h.iblk.no (by have := h.gt; omega) (by have := h.gt; have := h.bm.rlt; omega) h.own 3 _, ⟨by have := setc h.iblk.at_ 3 (.slice A ss.length cap); exact this, h.iblk.ne, h.iblk.no⟩, h.gt, h.own⟩
theorem BM.setShip (h : BM w bs K H bb rb v ship ds wr) (x : Int) : BM w bs K H bb rb v x ds (wr.setCell ⟨bb, 1, none⟩ (.int .i64 x)) := by
  have g := grown_one wr bb 1 (.int .i64 x)
  refine ⟨⟨h.lw.grown g (fun q hq => by injection hq with hq; subst hq; exact ⟨h.blk.ne, h.blk.no⟩), h.rm.2.1.far g (by omega), h.rm.2.2.1, h.rm.2.2.2.1, by have := h.rm.2.2.2.2; simpa [World.setCell] using this⟩, ⟨by have := setc h.blk.at_ 1 (.int .i64 x); exact this, h.blk.ne, h.blk.no⟩, h.res.grown g (by have := h.rlt; intro e; injection e with e; omega), h.rlt⟩
/-- An item put on. -/
theorem BM.app (h : BM w bs K H bb rb v ship ds wr) {v' : Value} {ds' : List ItD} (o : Orow W' (bb + 1) 42 4 fIt v' ds') (g1 : wr.grownBy W' v.ownBlock) (at1 : v'.ownBlock = v.ownBlock ∨ ∃ g, v'.ownBlock = some g ∧ wr.heap.size < g) :
    W'.cell? ⟨bb, 0, none⟩ = some v ∧ W'.frozen? ⟨bb, 0, none⟩ = false ∧ BM w bs K H bb rb v' ship ds' (W'.setCell ⟨bb, 0, none⟩ v') := by
  have hlo : ∀ q, v.ownBlock = some q → bb + 1 ≤ q := fun q hq => (h.rm.2.1.lt hq).1
  have hrm := h.rm.app o g1 at1
  have hblk := h.blk.grown g1 (fun e => by have := hlo bb e; omega)
  have hres := h.res.grown g1 (fun e => by have := hlo rb e; have := h.rlt; omega)
  have g := grown_one W' bb 0 v'
  refine ⟨cell_h hblk.at_ 0 rfl, froz_h hblk.at_ 0, ⟨⟨hrm.1.grown g (fun q hq => by injection hq with hq; subst hq; exact ⟨hblk.ne, hblk.no⟩), hrm.2.1.far g (by omega), hrm.2.2.1, hrm.2.2.2.1, by have := hrm.2.2.2.2; simpa [World.setCell] using this⟩, ⟨by have := setc hblk.at_ 0 v'; exact this, h.blk.ne, h.blk.no⟩, hres.grown g (by have := h.rlt; intro e; injection e with e; omega), h.rlt⟩⟩
/-- One cell of an item changed. -/
theorem BM.upd {go capg : Nat} (h : BM w bs K H bb rb (.slice (some ⟨go, 0, none⟩) ds.length capg) ship ds wr) {p : Nat} (hp : p < ds.length) {j : Nat} (hj : j < 4) (d' : ItD) {x : Value} (hx : fIt d' j = x) (ho : ∀ m, m < 4 → m ≠ j → fIt d' m = fIt ds[p] m) :
    wr.cell? ⟨go, p * 4 + j, none⟩ = some (fIt ds[p] j) ∧ wr.frozen? ⟨go, p * 4 + j, none⟩ = false ∧ BM w bs K H bb rb (.slice (some ⟨go, 0, none⟩) ds.length capg) ship (ds.set p d') (wr.setCell ⟨go, p * 4 + j, none⟩ x) := by
  obtain ⟨c1, f1, r1⟩ := h.rm.upd hp hj d' hx ho
  have hlo := (h.rm.2.1.lt (g := go) rfl).1
  have g := grown_one wr go (p * 4 + j) x
  exact ⟨c1, f1, r1, h.blk.grown g (by intro e; injection e with e; omega), h.res.grown g (by intro e; injection e with e; have := h.rlt; omega), h.rlt⟩
/-- The end: the basket is handed back. -/
theorem BM.fin (h : BM w bs K H bb rb v ship ds wr) (x y : Value) : ItM w bs K H (bb + 1) v ds ((wr.setCell ⟨rb, 0, none⟩ x).setCell ⟨rb, 1, none⟩ y) ∧ ((wr.setCell ⟨rb, 0, none⟩ x).setCell ⟨rb, 1, none⟩ y).heap[rb]? = some (.cells #[x, y] 30 (0, 0)) := by
  have g := grown_setc (grown_one wr rb 0 x) 1 y
  refine ⟨⟨h.lw.grown g (fun q hq => by injection hq with hq; subst hq; exact ⟨h.res.ne, h.res.no⟩), h.rm.2.1.far g (by have := h.rlt; omega), h.rm.2.2.1, h.rm.2.2.2.1, Nat.le_trans h.rm.2.2.2.2 g.size⟩, ?_⟩
  have h1 := setc h.res.at_ 0 x
  change _ = some (Obj.cells #[x, .int .i64 0] _ (0, 0)) at h1
  have h2 := setc h1 1 y
  exact h2
end
def φ12 (bs bb go n cap : Nat) (i : Nat) (v : Value) (_ : World) : Prop :=
  match i with
  | 0 => v = .pointer (some ⟨bb, 0, none⟩)
  | 1 => v = .slice (some ⟨go, 0, none⟩) n cap
  | 2 => v = .pointer (some ⟨bs, 0, none⟩)
  | 3 => v = .pointer (some ⟨bb, 0, none⟩)
  | 4 => v = .slice (some ⟨go, 0, none⟩) n cap
  | 5 => v = .int .i64 (n : Int)
  | 6 => ∃ p : Nat, v = .int .i64 (p : Int) ∧ p < n
  | 7 => ∃ p : Nat, v = .pointer (some ⟨go, p * 4, none⟩) ∧ p < n
  | _ => True
/-- The stream has been asked, or it has not. -/
def JB (W8 w : World) (bs K : Nat) (H : Frz) (bb rb : Nat) (v : Value) (ship : Int) (ds : List ItD) (L : Array Bool) (_ : Act) (W : World) : Prop := (L.getD 6 false = false → W = W8.drew) ∧ (L.getD 6 false = true → BM w bs K H bb rb v ship ds W)
theorem JB.step {W8 w : World} {bs K : Nat} {H : Frz} {bb rb : Nat} {v : Value} {ship : Int} {ds : List ItD} {L : Array Bool} {a a' : Act} {W : World} (h : JB W8 w bs K H bb rb v ship ds L a W) {i : Nat} (hi : i ≠ 6) (b : Unit) : JB W8 w bs K H bb rb v ship ds (L.setIfInBounds i true) a' W := by
  unfold JB at *
  rw [getD_set_ne false hi]
  exact h
set_option maxHeartbeats 8000000 in
set_option maxRecDepth 100000 in
theorem Lw.basket {w W : World} {bs K : Nat} {H : Frz} (h : Lw w bs K H W) (hK : K ≤ 900000) :
    Calls Tryz.prog 7 #[.pointer (some ⟨bs, 0, none⟩)] W fun e W' => ∃ (B : Nat) (v : Value) (ship : Int) (H' : Frz) (xs : List ItD), e = .returned (.agg #[v, .int .i64 ship]) ∧ H.Le H' ∧ ItM w bs (K + 100) H' B v xs W' ∧ xs.length ≤ 4 ∧ ItAll H' xs := by
  obtain ⟨i0, hi0, hz0, hz1, hz2⟩ := info_parts infoIt
  have hbs := h.lt
  have R0 : Hid (Bk bs H W.heap.size (.cells #[.slice none 0 0, .int .i64 0] 30 (0, 0)) (W.alloc (.cells #[.slice none 0 0, .int .i64 0] 30))) := ⟨heap_at rfl, h.lt, h.fin.none_ (Nat.le_refl _)⟩
  have C0 : Hid (RM (D := ItD) 42 4 fIt w bs K H (W.alloc (.cells #[.slice none 0 0, .int .i64 0] 30)).heap.size (.slice none 0 0) [] (W.alloc (.cells #[.slice none 0 0, .int .i64 0] 30))) := RM.new (h.alloc _)
  clear h
  go_enter Tryz.func7, Tryz.ntmps7
  go_upto_region 1 with (fail)
  generalize W.alloc (.cells #[.slice none 0 0, .int .i64 0] 30) = W1 at C0 R0 ⊢
  have hne := C0.out.lw.lt
  have hIn : Ints (W1.alloc (.cells #[.int .i64 0, .int .i64 0, .int .i64 495, .int .i64 1000, .int .i64 1000000000000] 3)) (some ⟨W1.heap.size, 0, none⟩) [0, 0, 495, 1000, 1000000000000] := Ints.of_row (heap_at rfl) rfl
  have HIn := Lib.hid hIn
  clear hIn
  go_wp2_with fail
  refine ((C0.out.alloc _).lw.pick _ _ [0, 0, 495, 1000, 1000000000000] HIn.out (fun b off e => by injection e with e; injection e with e1 e2; omega) (by simp) (by simp) (by omega)).mono ?_
  rintro e W2 ⟨sh, rfl, hsh, Lq, gq, -⟩
  have C1 := Lib.hid ((C0.out.alloc _).asked Lq gq)
  have R1 := Lib.hid ((R0.out.call (new1 (.cells #[.int .i64 0, .int .i64 0, .int .i64 495, .int .i64 1000, .int .i64 1000000000000] 3))).asked gq)
  clear Lq gq HIn hne C0 R0
  have D0 : Hid (BM w bs (K + 1) H W2.heap.size W.heap.size (.slice none 0 0) sh [] (W2.alloc (.cells #[.slice none 0 0, .int .i64 sh] 30))) := by
    have hlt := C1.out.lw.lt
    have hr := lt_of_heap R1.out.at_
    refine ⟨⟨(C1.out.alloc _).1, Orow.nil _ _ _ _ _, (fun g hg => by cases hg), by omega, by simp⟩, ⟨heap_at rfl, hlt, C1.out.lw.fin.none_ (Nat.le_refl _)⟩, R1.out.call (new1 _), hr⟩
  clear hsh C1 R1
  go_upto_region 2 with (fail)
  generalize W2.alloc (.cells #[.slice none 0 0, .int .i64 sh] 30) = W3 at D0 ⊢
  generalize W2.heap.size = bb at *
  go_wp2_with fail
  refine (D0.out.lw.next' 5 (by omega) (by omega) (by omega)).mono ?_
  rintro e W4 ⟨r, rfl, r0, r1, Lq, gq, -⟩
  have D1 := Lib.hid (D0.out.asked Lq gq)
  clear Lq gq D0
  obtain ⟨r, rfl⟩ := Int.eq_ofNat_of_zero_le r0
  clear r0
  go_wp2_with fail
  go_loopw [13] (fun t wr => ∃ (i : Nat) (H' : Frz) (v : Value) (ds : List ItD), i ≤ r ∧ t = .int .i64 i ∧ Hid (H.Le H') ∧ Hid (BM w bs (K + 2 + 3 * i) H' bb W.heap.size v sh ds wr) ∧ ds.length ≤ i ∧ Hid (ItAll H' ds)) (fun t _ => r - (intOf t).toNat)
  case atStart => exact ⟨0, H, _, [], by omega, rfl, Frz.Le.refl _, D1, by simp, (by intro d hd; cases hd)⟩
  case round =>
    obtain ⟨i, H2, v, ds, hi, rfl, HLE0, C, hdl, HAL⟩ := hrel
    clear D1
    by_cases hlt : i < r
    · have hw2 : IntKind.i64.wrap (97 + (i : Int)) = 97 + (i : Int) := IntWalk.i64_in _ (by omega)
      have hsz : (Utf8.encode (IntKind.wrap .i32 (97 + (i : Int)))).size ≤ 4 := by
        have := cvS ⟨97 + i, by omega⟩
        rw [show (((97 + i : Nat) : Nat) : Int) = 97 + (i : Int) from by omega] at this
        exact this
      have hcv1 := fun W => cvA W (97 + (i : Int))
      have hcv2 := fun W => cvB W (IntKind.wrap .i32 (97 + (i : Int)))
      have hlt2 : (i : Int) < (r : Int) := by omega
      generalize IntKind.wrap .i32 (97 + (i : Int)) = rn at *
      generalize Utf8.encode rn = en at *
      have hks : ((⟨#[105]⟩ : ByteArray) ++ en).size ≤ 1000000 := by rw [ByteArray.size_append]; show 1 + en.size ≤ 1000000; omega
      have hne := C.out.lw.lt
      have hIn : Ints (wr.alloc (.cells #[.int .i64 0, .int .i64 1, .int .i64 99, .int .i64 300, .int .i64 1000, .int .i64 2001, .int .i64 10000000] 3)) (some ⟨wr.heap.size, 0, none⟩) [0, 1, 99, 300, 1000, 2001, 10000000] := Ints.of_row (heap_at rfl) rfl
      have HIn := Lib.hid hIn
      clear hIn
      go_wp2_with fail
      refine ((C.out.alloc _).lw.pick _ _ [0, 1, 99, 300, 1000, 2001, 10000000] HIn.out (fun b off e => by injection e with e; injection e with e1 e2; omega) (by simp) (by simp) (by omega)).mono ?_
      rintro e W5 ⟨ce, rfl, hce, Lq, gq, -⟩
      have C2 := Lib.hid ((C.out.alloc _).asked Lq gq)
      clear Lq gq HIn hne C
      clear hce hcv1 hcv2
      have hne := C2.out.lw.lt
      have hIn : Ints (W5.alloc (.cells #[.int .i64 1, .int .i64 1, .int .i64 2, .int .i64 3, .int .i64 7, .int .i64 100] 3)) (some ⟨W5.heap.size, 0, none⟩) [1, 1, 2, 3, 7, 100] := Ints.of_row (heap_at rfl) rfl
      have HIn := Lib.hid hIn
      clear hIn
      go_wp2_with fail
      refine ((C2.out.alloc _).lw.pick _ _ [1, 1, 2, 3, 7, 100] HIn.out (fun b off e => by injection e with e; injection e with e1 e2; omega) (by simp) (by simp) (by omega)).mono ?_
      rintro e W6 ⟨ma, rfl, hma, Lq, gq, -⟩
      have C3 := Lib.hid ((C2.out.alloc _).asked Lq gq)
      clear Lq gq HIn hne C2
      clear hma
      go_upto_region 6 with (fail)
      generalize ((⟨#[105]⟩ : ByteArray) ++ en) = key at *
      have E0 := Lib.hid (BI.new C3.out (⟨key, ce, ma, none, 0, []⟩ : ItD))
      change Hid (BI w bs _ _ bb _ v sh ds W6.heap.size _ (W6.alloc (.cells #[.string key, .int .i64 ce, .int .i64 ma, .slice none 0 0] 42))) at E0
      generalize W6.alloc (.cells #[.string key, .int .i64 ce, .int .i64 ma, .slice none 0 0] 42) = W7 at E0 ⊢
      generalize W6.heap.size = ib at *
      clear C3
      obtain ⟨G0, l0, e0, F0⟩ := E0.out.put (.cells #[.string ⟨#[104, 97, 116]⟩] 9)
      obtain ⟨G1, l1, e1, F1⟩ := F0.put (.cells #[.string ⟨#[99, 97, 112]⟩] 9)
      rw [show (W7.alloc (.cells #[.string ⟨#[104, 97, 116]⟩] 9)).heap.size = W7.heap.size + 1 from by simp] at e1
      obtain ⟨G2, l2, e2, F2⟩ := F1.put (.cells #[.string ⟨#[99, 97, 112]⟩, .string ⟨#[104, 97, 116]⟩] 9)
      rw [show ((W7.alloc (.cells #[.string ⟨#[104, 97, 116]⟩] 9)).alloc (.cells #[.string ⟨#[99, 97, 112]⟩] 9)).heap.size = W7.heap.size + 1 + 1 from by simp] at e2
      obtain ⟨G3, l3, e3, F3⟩ := F2.put (.cells #[.string ⟨#[115, 104, 111, 101]⟩] 9)
      rw [show (((W7.alloc (.cells #[.string ⟨#[104, 97, 116]⟩] 9)).alloc (.cells #[.string ⟨#[99, 97, 112]⟩] 9)).alloc (.cells #[.string ⟨#[99, 97, 112]⟩, .string ⟨#[104, 97, 116]⟩] 9)).heap.size = W7.heap.size + 1 + 1 + 1 from by simp] at e3
      obtain ⟨G4, l4, e4, F4⟩ := F3.put (.cells #[.slice none 0 0, .slice (some ⟨W7.heap.size, 0, none⟩) 1 1, .slice (some ⟨W7.heap.size + 1, 0, none⟩) 1 1, .slice (some ⟨W7.heap.size + 1 + 1, 0, none⟩) 2 2, .slice (some ⟨W7.heap.size + 1 + 1 + 1, 0, none⟩) 1 1] 40)
      rw [show ((((W7.alloc (.cells #[.string ⟨#[104, 97, 116]⟩] 9)).alloc (.cells #[.string ⟨#[99, 97, 112]⟩] 9)).alloc (.cells #[.string ⟨#[99, 97, 112]⟩, .string ⟨#[104, 97, 116]⟩] 9)).alloc (.cells #[.string ⟨#[115, 104, 111, 101]⟩] 9)).heap.size = W7.heap.size + 1 + 1 + 1 + 1 from by simp] at e4
      have HSEL : Hid (∀ W', G4.In W' → ∀ i : Nat, i < 5 → ∃ (A : Option Addr) (ss : List ByteArray) (cap : Nat), W'.cell? ⟨W7.heap.size + 1 + 1 + 1 + 1, i, none⟩ = some (.slice A ss.length cap) ∧ Ss G4 (.slice A ss.length cap) ss) := by
        intro W' hW i hi
        match i, hi with
        | 0, _ => exact ⟨none, [], 0, cell_h (hW _ _ e4) 0 rfl, Ss.nil _⟩
        | 1, _ => exact ⟨some ⟨W7.heap.size, 0, none⟩, [(⟨#[104, 97, 116]⟩ : ByteArray)], 1, cell_h (hW _ _ e4) 1 rfl, Ss.of_row (ss := [(⟨#[104, 97, 116]⟩ : ByteArray)]) (l4 _ _ (l3 _ _ (l2 _ _ (l1 _ _ e0)))) rfl rfl (by intro s hs; simp only [List.mem_cons, List.not_mem_nil, or_false] at hs; rcases hs with rfl <;> decide) (by simp)⟩
        | 2, _ => exact ⟨some ⟨W7.heap.size + 1, 0, none⟩, [(⟨#[99, 97, 112]⟩ : ByteArray)], 1, cell_h (hW _ _ e4) 2 rfl, Ss.of_row (ss := [(⟨#[99, 97, 112]⟩ : ByteArray)]) (l4 _ _ (l3 _ _ (l2 _ _ e1))) rfl rfl (by intro s hs; simp only [List.mem_cons, List.not_mem_nil, or_false] at hs; rcases hs with rfl <;> decide) (by simp)⟩
        | 3, _ => exact ⟨some ⟨W7.heap.size + 1 + 1, 0, none⟩, [(⟨#[99, 97, 112]⟩ : ByteArray), (⟨#[104, 97, 116]⟩ : ByteArray)], 2, cell_h (hW _ _ e4) 3 rfl, Ss.of_row (ss := [(⟨#[99, 97, 112]⟩ : ByteArray), (⟨#[104, 97, 116]⟩ : ByteArray)]) (l4 _ _ (l3 _ _ e2)) rfl rfl (by intro s hs; simp only [List.mem_cons, List.not_mem_nil, or_false] at hs; rcases hs with rfl | rfl <;> decide) (by simp)⟩
        | 4, _ => exact ⟨some ⟨W7.heap.size + 1 + 1 + 1, 0, none⟩, [(⟨#[115, 104, 111, 101]⟩ : ByteArray)], 1, cell_h (hW _ _ e4) 4 rfl, Ss.of_row (ss := [(⟨#[115, 104, 111, 101]⟩ : ByteArray)]) (l4 _ _ e3) rfl rfl (by intro s hs; simp only [List.mem_cons, List.not_mem_nil, or_false] at hs; rcases hs with rfl <;> decide) (by simp)⟩
      have FF := Lib.hid F4
      have HLET := Lib.hid ((l0.trans (l1.trans (l2.trans (l3.trans l4)))))
      clear e0 e1 e2 e3 e4 l0 l1 l2 l3 l4 F0 F1 F2 F3 F4
      have hne := FF.out.lw.lt
      go_wp2_with fail
      refine (FF.out.lw.next' 5 (by omega) (by omega) (by omega)).mono ?_
      rintro e W8 ⟨ti, rfl, ti0, ti1, Lq, gq, -⟩
      have E1 := Lib.hid (FF.out.asked Lq gq)
      clear Lq gq hne
      obtain ⟨ti, rfl⟩ := Int.eq_ofNat_of_zero_le ti0
      obtain ⟨A_, ss_, cap_, hcell, hss⟩ := HSEL.out W8 E1.out.lw.fin ti (by omega)
      have HSS := Lib.hid hss
      clear HSEL hss
      have hk3 := cell_h E1.out.iblk.at_ 3 (v := .slice none 0 0) rfl
      have hf3 := froz_h E1.out.iblk.at_ 3
      have E2 := Lib.hid (E1.out.tags A_ ss_ cap_)
      go_upto_region 7 with (fail)
      generalize W8.setCell ⟨ib, 3, none⟩ (.slice A_ ss_.length cap_) = W9 at E2 ⊢
      clear hk3 hf3 E1
      obtain ⟨Av, capv, hv, hlev⟩ := E2.out.bm.rm.row.slice
      subst hv
      have b0 := cell_h E2.out.bm.blk.at_ 0 (v := .slice Av ds.length capv) rfl
      have i0_ := cell_h E2.out.iblk.at_ 0 (v := .string key) rfl
      have i1_ := cell_h E2.out.iblk.at_ 1 (v := .int .i64 ce) rfl
      have i2_ := cell_h E2.out.iblk.at_ 2 (v := .int .i64 ma) rfl
      have i3_ := cell_h E2.out.iblk.at_ 3 (v := .slice A_ ss_.length cap_) rfl
      have HOr := Lib.hid E2.out.bm.rm.row
      have HST := Lib.hid (fun v' W' o g1 at1 => E2.out.bm.app (v' := v') (W' := W') (ds' := ds ++ [⟨key, ce, ma, A_, cap_, ss_⟩]) o g1 at1)
      have hB9 := E2.out.bm.rm.2.2.2.2
      go_wp2_with (at_builtin; refine wpList_app_at rfl _ _ 28 rfl (bb + 1) 42 i0 (.agg #[.string ⟨#[]⟩, .int .i64 0, .int .i64 0, .slice none 0 0]) 4 56 Tryz.underlying28 hi0 hz0 hz1 hz2 rfl (by decide) fIt _ ds rfl HOr.out (⟨key, ce, ma, A_, cap_, ss_⟩ : ItD) #[.string key, .int .i64 ce, .int .i64 ma, .slice A_ ss_.length cap_] 42 rfl rfl (by simp [Value.oneCell']) (by omega) (by omega) hB9 ?_; intro v1 w2 o1 g1 b1 at1; obtain ⟨k0, kf0, hCA⟩ := HST.out v1 w2 o1 g1 at1; obtain ⟨A1, cap1, hv1, -⟩ := o1.slice; rw [List.length_append] at hv1; subst hv1; have CA := Lib.hid hCA; clear o1 g1 b1 at1 HST HOr hCA)
      go_roundw
      case rel => exact ⟨i + 1, G4, _, _, by omega, by go_num, HLE0.out.trans HLET.out, CA.out.more (by omega), by simp; omega, (HAL.out.le HLET.out).snoc ⟨HSS.out, hks⟩⟩
      case measure => simp [intOf]; omega
    · have hd4 : ds.length ≤ 4 := by omega
      go_wp2_with fail
      refine (C.out.lw.flip 12 (by omega) (by omega)).mono ?_
      rintro e W5 ⟨f1, rfl, Lq, gq, -⟩
      have C2 := Lib.hid (C.out.asked Lq gq)
      clear Lq gq C
      go_upto_if 46 with (fail)
      go_cut [] (fun wx => ∃ s : Int, Hid (BM w bs (K + 30) H2 bb W.heap.size v s ds wx))
      case first =>
        cases f1 with
        | false =>
          go_wp2_with fail
          go_meet
          exact ⟨_, C2.out.more (by omega)⟩
        | true =>
          skip
          have hne := C2.out.lw.lt
          have hIn : Ints (W5.alloc (.cells #[.int .i64 (-1), .int .i64 1000000000001, .int .i64 0] 3)) (some ⟨W5.heap.size, 0, none⟩) [-1, 1000000000001, 0] := Ints.of_row (heap_at rfl) rfl
          have HIn := Lib.hid hIn
          clear hIn
          go_wp2_with fail
          refine ((C2.out.alloc _).lw.pick _ _ [-1, 1000000000001, 0] HIn.out (fun b off e => by injection e with e; injection e with e1 e2; omega) (by simp) (by simp) (by omega)).mono ?_
          rintro e W6 ⟨x, rfl, hx, Lq, gq, -⟩
          have C3 := Lib.hid ((C2.out.alloc _).asked Lq gq)
          clear Lq gq HIn hne C2
          have C4 := Lib.hid (C3.out.setShip x)
          have hc := cell_h C3.out.blk.at_ 1 (v := .int .i64 sh) rfl
          have hf := froz_h C3.out.blk.at_ 1
          clear hx
          go_wp2_with fail
          go_meet
          exact ⟨_, C4.out.more (by omega)⟩
      case rest =>
        obtain ⟨s, C3⟩ := hcut
        clear C2
        obtain ⟨Av, capv, hv, hlev⟩ := C3.out.rm.row.slice
        go_wp2_with fail
        refine (C3.out.lw.flip 12 (by omega) (by omega)).mono ?_
        rintro e W8 ⟨f2, rfl, Lq, gq, -⟩
        have C4 := Lib.hid (C3.out.asked Lq gq)
        clear Lq gq C3
        have b0 := cell_h C4.out.blk.at_ 0 (v := v) rfl
        rw [hv] at b0
        cases f2 with
        | false =>
          have hb0 := cell_h C4.out.blk.at_ 0 (v := .slice Av ds.length capv) (by rw [← hv]; rfl)
          have hb1 := cell_h C4.out.blk.at_ 1 (v := .int .i64 s) rfl
          have hr0 := cell_h C4.out.res.at_ 0 (v := .slice none 0 0) rfl
          have hr1 := cell_h C4.out.res.at_ 1 (v := .int .i64 0) rfl
          have hf0 := froz_h C4.out.res.at_ 0
          have hf1 := froz_h C4.out.res.at_ 1
          go_wp2_with fail
          (try simp only [Exit.inBlock, Exit.then])
          obtain ⟨hfin, hh9⟩ := C4.out.fin (.slice Av ds.length capv) (.int .i64 s)
          refine bodyPost_ret (results_cell_row rfl _ _ W.heap.size 30 _ (0, 0) _ rfl hh9 Tryz.underlying30 rfl (by kernel_rfl)) rfl ?_
          exact ⟨bb + 1, _, s, H2, _, rfl, HLE0.out, (by rw [hv] at hfin; exact hfin.more (by omega)), hd4, HAL.out⟩
        | true =>
          by_cases hds : ds = []
          · have C4' := C4
            have hl0 : ds.length = 0 := by rw [hds]; rfl
            have hv' := hv
            rw [hl0] at hv' b0
            skip
            have hb0 := cell_h C4'.out.blk.at_ 0 (v := .slice Av 0 capv) (by rw [← hv']; rfl)
            have hb1 := cell_h C4'.out.blk.at_ 1 (v := .int .i64 s) rfl
            have hr0 := cell_h C4'.out.res.at_ 0 (v := .slice none 0 0) rfl
            have hr1 := cell_h C4'.out.res.at_ 1 (v := .int .i64 0) rfl
            have hf0 := froz_h C4'.out.res.at_ 0
            have hf1 := froz_h C4'.out.res.at_ 1
            go_wp2_with fail
            (try simp only [Exit.inBlock, Exit.then])
            obtain ⟨hfin, hh9⟩ := C4'.out.fin (.slice Av 0 capv) (.int .i64 s)
            refine bodyPost_ret (results_cell_row rfl _ _ W.heap.size 30 _ (0, 0) _ rfl hh9 Tryz.underlying30 rfl (by kernel_rfl)) rfl ?_
            exact ⟨bb + 1, _, s, H2, _, rfl, HLE0.out, (by rw [hv'] at hfin; exact hfin.more (by omega)), hd4, HAL.out⟩
          · have hpos : 0 < ds.length := List.length_pos_iff.2 hds
            obtain ⟨go, capg, rest, hv2, hleg, hBg, hglt, hmg, hblk, hrg⟩ := C4.out.rm.row.form hds
            rw [hv2] at hv
            injection hv with e1 e2 e3
            subst e1 e3
            subst hv2
            have hp2 : (0 : Int) < ds.length := by omega
            clear hblk hglt e2
            go_upto_region 12 with (fail)
            refine wp_region_concV 8 105 (φ12 bs bb go ds.length capg) (JB W8 w bs (K + 32) H2 bb W.heap.size (.slice (some ⟨go, 0, none⟩) ds.length capg) s ds) (fun _ _ => True) (by kernel_rfl) (by kernel_rfl) (by rfl) ⟨fun _ => rfl, fun h => (by rw [getD_replicate_false] at h; cases h)⟩ (fun i x w w' _ _ h => h) (fun i x w hi e _ => absurd e (by have hcs : i = 0 ∨ i = 1 ∨ i = 2 ∨ i = 3 ∨ i = 4 ∨ i = 5 ∨ i = 6 ∨ i = 7 := (by omega); rcases hcs with rfl | rfl | rfl | rfl | rfl | rfl | rfl | rfl <;> decide)) ?_ ?_
            · intro n o hn ho a W2 L hr hsN hLs hJ hkn
              have hcs : n = 0 ∨ n = 1 ∨ n = 2 ∨ n = 3 ∨ n = 4 ∨ n = 5 ∨ n = 6 ∨ n = 7 := by omega
              have hcell : W2.cell? ⟨bb, 0, none⟩ = some (.slice (some ⟨go, 0, none⟩) ds.length capg) := by
                by_cases h6 : L.getD 6 false = true
                · exact cell_h (hJ.2 h6).blk.at_ 0 rfl
                · have := hJ.1 (by simpa using h6)
                  subst this
                  exact b0
              rcases hcs with rfl | rfl | rfl | rfl | rfl | rfl | rfl | rfl
              · obtain rfl := Option.some.inj ho
                refine OpV.mono (R := fun v w' => φ12 bs bb go ds.length capg 0 v w' ∧ w' = W2) ?_ (fun v w' h => ⟨h.1, h.2 ▸ hJ.step (by decide) (), trivial⟩)
                have h0 := slotv (hkn 3 (by decide) : a.tmps.getD 3 undef = .pointer (some ⟨bb, 0, none⟩))
                clear hkn ho
                simp only [OpV, execOp]
                simp [go_sem, h0]
                first | exact ⟨rfl, rfl⟩ | exact rfl
              · obtain rfl := Option.some.inj ho
                refine OpV.mono (R := fun v w' => φ12 bs bb go ds.length capg 1 v w' ∧ w' = W2) ?_ (fun v w' h => ⟨h.1, h.2 ▸ hJ.step (by decide) (), trivial⟩)
                have h0 := slotv (hkn 59 (by decide) : a.tmps.getD 59 undef = .pointer (some ⟨bb, 0, none⟩))
                clear hkn ho
                simp only [OpV, execOp]
                simp [go_sem, h0, hcell]
                first | exact ⟨rfl, rfl⟩ | exact rfl
              · obtain rfl := Option.some.inj ho
                exact ⟨hkn 0 (by decide), hJ.step (by decide) (), trivial⟩
              · obtain rfl := Option.some.inj ho
                refine OpV.mono (R := fun v w' => φ12 bs bb go ds.length capg 3 v w' ∧ w' = W2) ?_ (fun v w' h => ⟨h.1, h.2 ▸ hJ.step (by decide) (), trivial⟩)
                have h0 := slotv (hkn 3 (by decide) : a.tmps.getD 3 undef = .pointer (some ⟨bb, 0, none⟩))
                clear hkn ho
                simp only [OpV, execOp]
                simp [go_sem, h0]
                first | exact ⟨rfl, rfl⟩ | exact rfl
              · obtain rfl := Option.some.inj ho
                refine OpV.mono (R := fun v w' => φ12 bs bb go ds.length capg 4 v w' ∧ w' = W2) ?_ (fun v w' h => ⟨h.1, h.2 ▸ hJ.step (by decide) (), trivial⟩)
                have h0 := slotv (hkn 62 (by decide) : a.tmps.getD 62 undef = .pointer (some ⟨bb, 0, none⟩))
                clear hkn ho
                simp only [OpV, execOp]
                simp [go_sem, h0, hcell]
                first | exact ⟨rfl, rfl⟩ | exact rfl
              · obtain rfl := Option.some.inj ho
                refine OpV.mono (R := fun v w' => φ12 bs bb go ds.length capg 5 v w' ∧ w' = W2) ?_ (fun v w' h => ⟨h.1, h.2 ▸ hJ.step (by decide) (), trivial⟩)
                have h0 := slotv (hkn 63 (by decide) : a.tmps.getD 63 undef = .slice (some ⟨go, 0, none⟩) ds.length capg)
                clear hkn ho
                simp only [OpV, execOp]
                simp [go_sem, h0]
                first | exact ⟨rfl, rfl⟩ | exact rfl
              · obtain rfl := Option.some.inj ho
                have hnot := ready_not hr (by show (6 : Nat) < L.size; rw [hLs]; decide)
                obtain rfl := (hJ.1 hnot)
                have h0 := slotv (hkn 61 (by decide) : a.tmps.getD 61 undef = .pointer (some ⟨bs, 0, none⟩))
                have h1 := slotv (hkn 64 (by decide) : a.tmps.getD 64 undef = .int .i64 (ds.length : Int))
                have C4d := C4.out.call (Below.refl _ _).drew
                have hcc := C4d.lw.next' (ds.length : Int) (by omega) (by omega) (by omega)
                refine OpV.mono (R := fun v w' => (∃ p : Nat, v = .int .i64 (p : Int) ∧ p < ds.length) ∧ BM w bs (K + 32) H2 bb W.heap.size (.slice (some ⟨go, 0, none⟩) ds.length capg) s ds w') ?_ (fun v w' h => ⟨h.1, ⟨fun h6 => (by rw [getD_set_self (by show (6 : Nat) < L.size; rw [hLs]; decide)] at h6; cases h6), fun _ => h.2⟩, trivial⟩)
                clear hkn ho
                simp only [OpV, execOp]
                simp [go_sem, h0, h1]
                refine hcc.mono ?_
                rintro e w' ⟨p, rfl, p0, p1, Lq, gq, -⟩
                obtain ⟨p, rfl⟩ := Int.eq_ofNat_of_zero_le p0
                exact ⟨_, rfl, ⟨p, rfl, by omega⟩, C4d.asked Lq gq⟩
              · obtain rfl := Option.some.inj ho
                refine OpV.mono (R := fun v w' => φ12 bs bb go ds.length capg 7 v w' ∧ w' = W2) ?_ (fun v w' h => ⟨h.1, h.2 ▸ hJ.step (by decide) (), trivial⟩)
                have h0 := slotv (hkn 60 (by decide) : a.tmps.getD 60 undef = .slice (some ⟨go, 0, none⟩) ds.length capg)
                obtain ⟨p, h1, hp⟩ : ∃ p : Nat, a.tmps.getD 65 undef = .int .i64 (p : Int) ∧ p < ds.length := hkn 65 (by decide)
                replace h1 := slotv h1
                clear hkn ho
                simp only [OpV, execOp]
                simp [go_sem, h0, h1, hp]
                exact ⟨p, rfl, hp⟩
            · intro yv W9 L9 hL9 hW9 hgt hφ
              have C5 := Lib.hid (hW9.2 (hL9 6 (by decide)))
              have hφ7 : ∃ p : Nat, yv 7 = .pointer (some ⟨go, p * 4, none⟩) ∧ p < ds.length := by
                rcases hφ 7 (by decide) with h | h
                · exact h
                · exact absurd h.1 (by decide)
              obtain ⟨p, hp7, hpl⟩ := hφ7
              clear hW9 hgt hφ hL9 C4 b0
              simp only [List.drop_succ_cons, List.drop_zero, List.take_succ_cons, List.take_zero, putAll, Nat.reduceAdd, hp7]
              clear hp7
              have hkp := HAL.out _ (List.getElem_mem hpl)
              go_wp2_with fail
              refine (C5.out.lw.next' 4 (by omega) (by omega) (by omega)).mono ?_
              rintro e W10 ⟨sw, rfl, sw0, sw1, Lq, gq, -⟩
              have C6 := Lib.hid (C5.out.asked Lq gq)
              clear Lq gq C5
              have hcs : sw = 0 ∨ sw = 1 ∨ sw = 2 ∨ sw = 3 := by omega
              rcases hcs with rfl | rfl | rfl | rfl
              · skip
                have hne := C6.out.lw.lt
                have hSt : StrsW (W10.alloc (.cells #[.string ⟨#[]⟩, .string ⟨#[105, 97]⟩, .string ⟨#[73]⟩] 9)) (some ⟨W10.heap.size, 0, none⟩) [⟨#[]⟩, ⟨#[105, 97]⟩, ⟨#[73]⟩] := StrsW.of_row (heap_at rfl) rfl
                have HSt := Lib.hid hSt
                clear hSt
                go_wp2_with fail
                refine ((C6.out.alloc _).lw.one _ _ [⟨#[]⟩, ⟨#[105, 97]⟩, ⟨#[73]⟩] HSt.out (fun b off e => by injection e with e; injection e with e1 e2; omega) (by simp) (by simp) (by omega)).mono ?_
                rintro e W11 ⟨x, rfl, hx, Lq, gq, -⟩
                have C7 := Lib.hid ((C6.out.alloc _).asked Lq gq)
                clear Lq gq HSt hne C6
                obtain ⟨cell1, fr1, hfin1⟩ := C7.out.upd hpl (j := 0) (by omega) (({ ds[p] with key := x } : ItD)) (x := .string x) rfl (by intro m hm hne; have : m = 1 ∨ m = 2 ∨ m = 3 := (by omega); rcases this with rfl | rfl | rfl <;> rfl)
                simp only [Nat.add_zero] at cell1 fr1 hfin1
                have X9 := Lib.hid hfin1
                have HAL9 := Lib.hid (HAL.out.set (p := p) (d := ({ ds[p] with key := x } : ItD)) ⟨hkp.tags, (by have hz : x.size ≤ 10 := (by simp at hx; rcases hx with rfl | rfl | rfl <;> decide); show x.size ≤ 1000000; omega)⟩)
                go_upto_region 21 with (fail)
                generalize W11.setCell ⟨go, p * 4, none⟩ (.string x) = W20 at X9 ⊢
                clear hfin1 cell1 fr1
                have hb0 := cell_h X9.out.blk.at_ 0 (v := .slice (some ⟨go, 0, none⟩) ds.length capg) rfl
                have hb1 := cell_h X9.out.blk.at_ 1 (v := .int .i64 s) rfl
                have hr0 := cell_h X9.out.res.at_ 0 (v := .slice none 0 0) rfl
                have hr1 := cell_h X9.out.res.at_ 1 (v := .int .i64 0) rfl
                have hf0 := froz_h X9.out.res.at_ 0
                have hf1 := froz_h X9.out.res.at_ 1
                go_wp2_with fail
                (try simp only [Exit.inBlock, Exit.then])
                obtain ⟨hfin, hh9⟩ := X9.out.fin (.slice (some ⟨go, 0, none⟩) ds.length capg) (.int .i64 s)
                refine bodyPost_ret (results_cell_row rfl _ _ W.heap.size 30 _ (0, 0) _ rfl hh9 Tryz.underlying30 rfl (by kernel_rfl)) rfl ?_
                exact ⟨bb + 1, _, s, H2, _, rfl, HLE0.out, hfin.more (by omega), (by simpa using hd4), HAL9.out⟩
              · skip
                have hne := C6.out.lw.lt
                have hIn : Ints (W10.alloc (.cells #[.int .i64 (-1), .int .i64 10000001] 3)) (some ⟨W10.heap.size, 0, none⟩) [-1, 10000001] := Ints.of_row (heap_at rfl) rfl
                have HIn := Lib.hid hIn
                clear hIn
                go_wp2_with fail
                refine ((C6.out.alloc _).lw.pick _ _ [-1, 10000001] HIn.out (fun b off e => by injection e with e; injection e with e1 e2; omega) (by simp) (by simp) (by omega)).mono ?_
                rintro e W11 ⟨x, rfl, hx, Lq, gq, -⟩
                have C7 := Lib.hid ((C6.out.alloc _).asked Lq gq)
                clear Lq gq HIn hne C6
                clear hx
                obtain ⟨cell1, fr1, hfin1⟩ := C7.out.upd hpl (j := 1) (by omega) (({ ds[p] with cents := x } : ItD)) (x := .int .i64 x) rfl (by intro m hm hne; have : m = 0 ∨ m = 2 ∨ m = 3 := (by omega); rcases this with rfl | rfl | rfl <;> rfl)
                have X9 := Lib.hid hfin1
                have HAL9 := Lib.hid (HAL.out.set (p := p) (d := ({ ds[p] with cents := x } : ItD)) ⟨hkp.tags, hkp.key⟩)
                go_upto_region 21 with (fail)
                generalize W11.setCell ⟨go, p * 4 + 1, none⟩ (.int .i64 x) = W20 at X9 ⊢
                clear hfin1 cell1 fr1
                have hb0 := cell_h X9.out.blk.at_ 0 (v := .slice (some ⟨go, 0, none⟩) ds.length capg) rfl
                have hb1 := cell_h X9.out.blk.at_ 1 (v := .int .i64 s) rfl
                have hr0 := cell_h X9.out.res.at_ 0 (v := .slice none 0 0) rfl
                have hr1 := cell_h X9.out.res.at_ 1 (v := .int .i64 0) rfl
                have hf0 := froz_h X9.out.res.at_ 0
                have hf1 := froz_h X9.out.res.at_ 1
                go_wp2_with fail
                (try simp only [Exit.inBlock, Exit.then])
                obtain ⟨hfin, hh9⟩ := X9.out.fin (.slice (some ⟨go, 0, none⟩) ds.length capg) (.int .i64 s)
                refine bodyPost_ret (results_cell_row rfl _ _ W.heap.size 30 _ (0, 0) _ rfl hh9 Tryz.underlying30 rfl (by kernel_rfl)) rfl ?_
                exact ⟨bb + 1, _, s, H2, _, rfl, HLE0.out, hfin.more (by omega), (by simpa using hd4), HAL9.out⟩
              · skip
                have hne := C6.out.lw.lt
                have hIn : Ints (W10.alloc (.cells #[.int .i64 0, .int .i64 101] 3)) (some ⟨W10.heap.size, 0, none⟩) [0, 101] := Ints.of_row (heap_at rfl) rfl
                have HIn := Lib.hid hIn
                clear hIn
                go_wp2_with fail
                refine ((C6.out.alloc _).lw.pick _ _ [0, 101] HIn.out (fun b off e => by injection e with e; injection e with e1 e2; omega) (by simp) (by simp) (by omega)).mono ?_
                rintro e W11 ⟨x, rfl, hx, Lq, gq, -⟩
                have C7 := Lib.hid ((C6.out.alloc _).asked Lq gq)
                clear Lq gq HIn hne C6
                clear hx
                obtain ⟨cell1, fr1, hfin1⟩ := C7.out.upd hpl (j := 2) (by omega) (({ ds[p] with many := x } : ItD)) (x := .int .i64 x) rfl (by intro m hm hne; have : m = 0 ∨ m = 1 ∨ m = 3 := (by omega); rcases this with rfl | rfl | rfl <;> rfl)
                have X9 := Lib.hid hfin1
                have HAL9 := Lib.hid (HAL.out.set (p := p) (d := ({ ds[p] with many := x } : ItD)) ⟨hkp.tags, hkp.key⟩)
                go_upto_region 21 with (fail)
                generalize W11.setCell ⟨go, p * 4 + 2, none⟩ (.int .i64 x) = W20 at X9 ⊢
                clear hfin1 cell1 fr1
                have hb0 := cell_h X9.out.blk.at_ 0 (v := .slice (some ⟨go, 0, none⟩) ds.length capg) rfl
                have hb1 := cell_h X9.out.blk.at_ 1 (v := .int .i64 s) rfl
                have hr0 := cell_h X9.out.res.at_ 0 (v := .slice none 0 0) rfl
                have hr1 := cell_h X9.out.res.at_ 1 (v := .int .i64 0) rfl
                have hf0 := froz_h X9.out.res.at_ 0
                have hf1 := froz_h X9.out.res.at_ 1
                go_wp2_with fail
                (try simp only [Exit.inBlock, Exit.then])
                obtain ⟨hfin, hh9⟩ := X9.out.fin (.slice (some ⟨go, 0, none⟩) ds.length capg) (.int .i64 s)
                refine bodyPost_ret (results_cell_row rfl _ _ W.heap.size 30 _ (0, 0) _ rfl hh9 Tryz.underlying30 rfl (by kernel_rfl)) rfl ?_
                exact ⟨bb + 1, _, s, H2, _, rfl, HLE0.out, hfin.more (by omega), (by simpa using hd4), HAL9.out⟩
              · skip
                obtain ⟨Q0, l0, e0, F0⟩ := C6.out.put (.cells #[.string ⟨#[98]⟩, .string ⟨#[97]⟩] 9)
                obtain ⟨Q1, l1, e1, F1⟩ := F0.put (.cells #[.string ⟨#[]⟩] 9)
                rw [show (W10.alloc (.cells #[.string ⟨#[98]⟩, .string ⟨#[97]⟩] 9)).heap.size = W10.heap.size + 1 from by simp] at e1
                obtain ⟨Q2, l2, e2, F2⟩ := F1.put (.cells #[.string ⟨#[120]⟩, .string ⟨#[120]⟩] 9)
                rw [show ((W10.alloc (.cells #[.string ⟨#[98]⟩, .string ⟨#[97]⟩] 9)).alloc (.cells #[.string ⟨#[]⟩] 9)).heap.size = W10.heap.size + 1 + 1 from by simp] at e2
                obtain ⟨Q3, l3, e3, F3⟩ := F2.put (.cells #[.slice (some ⟨W10.heap.size, 0, none⟩) 2 2, .slice (some ⟨W10.heap.size + 1, 0, none⟩) 1 1, .slice (some ⟨W10.heap.size + 1 + 1, 0, none⟩) 2 2] 40)
                rw [show (((W10.alloc (.cells #[.string ⟨#[98]⟩, .string ⟨#[97]⟩] 9)).alloc (.cells #[.string ⟨#[]⟩] 9)).alloc (.cells #[.string ⟨#[120]⟩, .string ⟨#[120]⟩] 9)).heap.size = W10.heap.size + 1 + 1 + 1 from by simp] at e3
                have HSEL : Hid (∀ W', Q3.In W' → ∀ i : Nat, i < 3 → ∃ (A : Option Addr) (ss : List ByteArray) (cap : Nat), W'.cell? ⟨W10.heap.size + 1 + 1 + 1, i, none⟩ = some (.slice A ss.length cap) ∧ Ss Q3 (.slice A ss.length cap) ss) := by
                  intro W' hW i hi
                  match i, hi with
                  | 0, _ => exact ⟨some ⟨W10.heap.size, 0, none⟩, [(⟨#[98]⟩ : ByteArray), (⟨#[97]⟩ : ByteArray)], 2, cell_h (hW _ _ e3) 0 rfl, Ss.of_row (ss := [(⟨#[98]⟩ : ByteArray), (⟨#[97]⟩ : ByteArray)]) (l3 _ _ (l2 _ _ (l1 _ _ e0))) rfl rfl (by intro s hs; simp only [List.mem_cons, List.not_mem_nil, or_false] at hs; rcases hs with rfl | rfl <;> decide) (by simp)⟩
                  | 1, _ => exact ⟨some ⟨W10.heap.size + 1, 0, none⟩, [(⟨#[]⟩ : ByteArray)], 1, cell_h (hW _ _ e3) 1 rfl, Ss.of_row (ss := [(⟨#[]⟩ : ByteArray)]) (l3 _ _ (l2 _ _ e1)) rfl rfl (by intro s hs; simp only [List.mem_cons, List.not_mem_nil, or_false] at hs; rcases hs with rfl <;> decide) (by simp)⟩
                  | 2, _ => exact ⟨some ⟨W10.heap.size + 1 + 1, 0, none⟩, [(⟨#[120]⟩ : ByteArray), (⟨#[120]⟩ : ByteArray)], 2, cell_h (hW _ _ e3) 2 rfl, Ss.of_row (ss := [(⟨#[120]⟩ : ByteArray), (⟨#[120]⟩ : ByteArray)]) (l3 _ _ e2) rfl rfl (by intro s hs; simp only [List.mem_cons, List.not_mem_nil, or_false] at hs; rcases hs with rfl | rfl <;> decide) (by simp)⟩
                have FF := Lib.hid F3
                have HLET := Lib.hid ((l0.trans (l1.trans (l2.trans l3))))
                clear e0 e1 e2 e3 l0 l1 l2 l3 F0 F1 F2 F3
                have hne := FF.out.lw.lt
                go_wp2_with fail
                refine (FF.out.lw.next' 3 (by omega) (by omega) (by omega)).mono ?_
                rintro e W11 ⟨tj, rfl, tj0, tj1, Lq, gq, -⟩
                have C7 := Lib.hid (FF.out.asked Lq gq)
                clear Lq gq hne
                obtain ⟨tj, rfl⟩ := Int.eq_ofNat_of_zero_le tj0
                obtain ⟨A_, ss_, cap_, hcell, hss⟩ := HSEL.out W11 C7.out.lw.fin tj (by omega)
                have HSS := Lib.hid hss
                clear HSEL hss
                obtain ⟨cell1, fr1, hfin1⟩ := C7.out.upd hpl (j := 3) (by omega) (({ ds[p] with ta := A_, tc := cap_, tags := ss_ } : ItD)) (x := .slice A_ ss_.length cap_) rfl (by intro m hm hne; have : m = 0 ∨ m = 1 ∨ m = 2 := (by omega); rcases this with rfl | rfl | rfl <;> rfl)
                have X9 := Lib.hid hfin1
                have HAL9 := Lib.hid ((HAL.out.le HLET.out).set (p := p) (d := ({ ds[p] with ta := A_, tc := cap_, tags := ss_ } : ItD)) ⟨HSS.out, (hkp.le HLET.out).key⟩)
                go_upto_region 21 with (fail)
                generalize W11.setCell ⟨go, p * 4 + 3, none⟩ (.slice A_ ss_.length cap_) = W20 at X9 ⊢
                clear hfin1 cell1 fr1
                have hb0 := cell_h X9.out.blk.at_ 0 (v := .slice (some ⟨go, 0, none⟩) ds.length capg) rfl
                have hb1 := cell_h X9.out.blk.at_ 1 (v := .int .i64 s) rfl
                have hr0 := cell_h X9.out.res.at_ 0 (v := .slice none 0 0) rfl
                have hr1 := cell_h X9.out.res.at_ 1 (v := .int .i64 0) rfl
                have hf0 := froz_h X9.out.res.at_ 0
                have hf1 := froz_h X9.out.res.at_ 1
                go_wp2_with fail
                (try simp only [Exit.inBlock, Exit.then])
                obtain ⟨hfin, hh9⟩ := X9.out.fin (.slice (some ⟨go, 0, none⟩) ds.length capg) (.int .i64 s)
                refine bodyPost_ret (results_cell_row rfl _ _ W.heap.size 30 _ (0, 0) _ rfl hh9 Tryz.underlying30 rfl (by kernel_rfl)) rfl ?_
                exact ⟨bb + 1, _, s, Q3, _, rfl, (HLE0.out.trans HLET.out), hfin.more (by omega), (by simpa using hd4), HAL9.out⟩
end Go.Proofs.YtihcmifikbkbcaaGreat
