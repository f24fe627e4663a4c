/- What a stream makes: cells. -/
import Derived.Test.YtadfoaopamlnpaaMake
import Derived.Test.YtadfoaopamlnpaaCells
import Derived.Test.YtadfoaopamlnpaaOrow
import Derived.Test.YtadfoaopamlnpaaLwMore
import Derived.Test.YtadfoaopamlnpaaAppG
import Derived.Deep.CutBlock
import Derived.Deep.DeepCutAuto
namespace Go.Proofs.Ytadfoaopamlnpaa
set_option linter.unusedVariables false
open Go.RowKit

theorem infoCell' : (Try.prog.info? 54).map (fun i => (i.zero, i.size, i.bytes)) = some (some (.agg #[.slice none 0 0, .int .i64 0, .int .i64 0]), 3, 40) := by kernel_rfl
theorem infoStr' : (Try.prog.info? 9).map (fun i => (i.zero, i.size, i.bytes)) = some (some (.string ⟨#[]⟩), 1, 16) := by kernel_rfl
/-- Cells in the making. -/
def CM (w : World) (bs K : Nat) (H' : Frz) (B : Nat) (v : Value) (ds : List CellD) (wr : World) : Prop :=
  Lw w bs K H' wr ∧ CellsR H' ds ∧ Orow wr B 54 3 fC v ds ∧ (∀ g, v.ownBlock = some g → H' g = none) ∧ bs < B ∧ B ≤ wr.heap.size
section
variable {w wr W' : World} {bs K K' B : Nat} {H H' : Frz} {v : Value} {ds : List CellD}
theorem CM.lw (h : CM w bs K H B v ds wr) : Lw w bs K H wr := h.1
theorem CM.asked (h : CM w bs K H B v ds wr) (L : Lw w bs K' H W') (g : wr.grownBy W' (some bs)) : CM w bs K' H B v ds W' :=
  ⟨L, h.2.1, h.2.2.1.far g h.2.2.2.2.1, h.2.2.2.1, h.2.2.2.2.1, Nat.le_trans h.2.2.2.2.2 g.size⟩
theorem CM.more (h : CM w bs K H B v ds wr) (hK : K ≤ K') : CM w bs K' H B v ds wr := ⟨h.1.more hK, h.2⟩
theorem CM.call (h : CM w bs K H B v ds wr) (hb : Below wr.heap.size wr W') : CM w bs K H B v ds W' :=
  ⟨h.1.call hb, h.2.1, h.2.2.1.below hb, h.2.2.2.1, h.2.2.2.2.1, Nat.le_trans h.2.2.2.2.2 hb.size⟩
theorem CM.drew (h : CM w bs K H B v ds wr) : CM w bs K H B v ds wr.drew := h.call ((Below.refl _ _).drew)
theorem CM.alloc (h : CM w bs K H B v ds wr) (o : Obj) : CM w bs K H B v ds (wr.alloc o) := h.call ((Below.refl _ _).alloc (Nat.le_refl _) _)
/-- A new block that is laid for good. -/
theorem CM.put (h : CM w bs K H B v ds wr) (o : Obj) : ∃ H', H.Le H' ∧ H' wr.heap.size = some o ∧ CM w bs K H' B v ds (wr.alloc o) := by
  obtain ⟨H', h1, h2, h3⟩ := h.1.put o
  refine ⟨H.add wr.heap.size o, Frz.le_add (h.1.fin.none_ (Nat.le_refl _)), Frz.add_at _ _ _, (h.1.alloc o).keep (heap_at rfl) (by have := h.1.lt; omega), ?_, (h.alloc o).2.2.1, ?_, (h.alloc o).2.2.2.2⟩
  · intro d hd
    exact (h.2.1 d hd).le (Frz.le_add (h.1.fin.none_ (Nat.le_refl _)))
  · intro g hg
    rw [Frz.add_other (by have := (h.2.2.1.lt hg).2; omega)]
    exact h.2.2.2.1 g hg
end
def sa : ByteArray := ⟨#[97]⟩
def two (x y : UInt8) : List ByteArray := [⟨#[x]⟩, ⟨#[y]⟩]
theorem two_len (x y : UInt8) : (two x y).length = 2 := rfl
theorem two_size (x y : UInt8) (i : Nat) (hi : i < 2) : ((two x y)[i]'hi).size ≤ 1000 := by
  match i, hi with
  | 0, _ => show (1 : Nat) ≤ 1000; omega
  | 1, _ => show (1 : Nat) ≤ 1000; omega
theorem three_size {s : ByteArray} (h : s ∈ [(⟨#[97]⟩ : ByteArray), ⟨#[]⟩, ⟨#[122]⟩]) : s.size ≤ 1000 := by
  simp at h
  rcases h with rfl | rfl | rfl
  · show (1 : Nat) ≤ 1000; omega
  · show (0 : Nat) ≤ 1000; omega
  · show (1 : Nat) ≤ 1000; omega
theorem two_cell {H : Frz} {W : World} (h : H.In W) {g : Nat} {x y : UInt8} {T : TypeId} (e : H g = some (.cells #[.string ⟨#[x]⟩, .string ⟨#[y]⟩] T (0, 0))) (i : Nat) (hi : i < 2) : W.cell? ⟨g, i, none⟩ = some (.string ((two x y)[i]'hi)) := by
  have := h _ _ e
  simp only [World.cell?, this]
  match i, hi with
  | 0, _ => rfl
  | 1, _ => rfl
/-- A block that stays while the stream is asked. -/
def At (bs : Nat) (w : World) (g : Nat) (o : Obj) : Prop := g ≠ bs ∧ w.heap[g]? = some o
theorem At.keep {bs g : Nat} {w w' : World} {o : Obj} (h : At bs w g o) (e : w.grownBy w' (some bs)) : At bs w' g o :=
  ⟨h.1, (e.block g (lt_of_heap h.2) (fun c => h.1 (by injection c))).trans h.2⟩
theorem At.new {bs : Nat} {w : World} (o : Obj) (h : bs < w.heap.size) : At bs (w.alloc o) w.heap.size o := ⟨by omega, heap_at rfl⟩
theorem grown_alloc {w : World} (o : Obj) (row : Option Nat) : w.grownBy (w.alloc o) row := ⟨rfl, rfl, rfl, by simp, fun k hk _ => heap_lt hk⟩

def KB (ds : List CellD) : Prop := ∀ d ∈ ds, d.keys.length ≤ 3
theorem KB.snoc {ds : List CellD} (h : KB ds) {v : Value} {a b c : ByteArray} {d : Nat} {m n : Int} : KB (ds ++ [⟨v, [a, b, c].take d, m, n⟩]) := by
  intro y hy
  rcases List.mem_append.1 hy with hy | hy
  · exact h y hy
  · simp at hy; rw [hy]; simp; omega
/-- What the operations of the struct's line leave. -/
def φ13 (bs B0 : Nat) (v : Value) (a b c : ByteArray) (d : Nat) : Nat → Value → World → Prop
  | 0, x, _ => x = v
  | 1, x, _ => x = .string a
  | 2, x, _ => x = .string b
  | 3, x, _ => x = .string c
  | 4, x, w => ∃ g, x = .slice (some ⟨g, 0, none⟩) 3 3 ∧ B0 ≤ g ∧ At bs w g (.cells #[.string a, .string b, .string c] 9 (0, 0))
  | 5, x, _ => x = .int .i64 d
  | 6, x, w => ∃ g, x = .slice (some ⟨g, 0, none⟩) d 3 ∧ B0 ≤ g ∧ At bs w g (.cells #[.string a, .string b, .string c] 9 (0, 0))
  | 7, x, _ => x = .pointer (some ⟨bs, 0, none⟩)
  | 8, x, w => ∃ g, x = .slice (some ⟨g, 0, none⟩) 5 5 ∧ At bs w g (.cells #[.int .i64 0, .int .i64 1, .int .i64 5, .int .i64 999999, .int .i64 1000000] 3 (0, 0))
  | 9, x, _ => ∃ z, x = .int .i64 z
  | 10, x, _ => x = .pointer (some ⟨bs, 0, none⟩)
  | 11, x, w => ∃ g, x = .slice (some ⟨g, 0, none⟩) 5 5 ∧ At bs w g (.cells #[.int .i64 0, .int .i64 7, .int .i64 (-7), .int .i64 1000000000000, .int .i64 (-1000000000000)] 3 (0, 0))
  | 12, x, _ => ∃ z, x = .int .i64 z
  | 13, x, w => ∃ g m n, x = .agg #[.slice (some ⟨g, 0, none⟩) d 3, .int .i64 m, .int .i64 n] ∧ B0 ≤ g ∧ At bs w g (.cells #[.string a, .string b, .string c] 9 (0, 0))
  | 14, x, w => ∃ q g m n, x = .slice (some ⟨q, 0, none⟩) 1 1 ∧ At bs w q (.cells #[.slice (some ⟨g, 0, none⟩) d 3, .int .i64 m, .int .i64 n] 54 (0, 0)) ∧ B0 ≤ g ∧ At bs w g (.cells #[.string a, .string b, .string c] 9 (0, 0))
  | _, _, _ => True
theorem φ13_mono {bs B0 : Nat} {v : Value} {a b c : ByteArray} {d : Nat} (i : Nat) (x : Value) (w w' : World) (hi : i < 15) (e : w.grownBy w' (some bs)) (h : φ13 bs B0 v a b c d i x w) : φ13 bs B0 v a b c d i x w' := by
  match i, hi, h with
  | 0, _, h => exact h
  | 1, _, h => exact h
  | 2, _, h => exact h
  | 3, _, h => exact h
  | 4, _, ⟨g, h1, h2, h3⟩ => exact ⟨g, h1, h2, h3.keep e⟩
  | 5, _, h => exact h
  | 6, _, ⟨g, h1, h2, h3⟩ => exact ⟨g, h1, h2, h3.keep e⟩
  | 7, _, h => exact h
  | 8, _, ⟨g, h1, h3⟩ => exact ⟨g, h1, h3.keep e⟩
  | 9, _, h => exact h
  | 10, _, h => exact h
  | 11, _, ⟨g, h1, h3⟩ => exact ⟨g, h1, h3.keep e⟩
  | 12, _, h => exact h
  | 13, _, ⟨g, m, n, h1, h2, h3⟩ => exact ⟨g, m, n, h1, h2, h3.keep e⟩
  | 14, _, ⟨q, g, m, n, h1, h2, h3, h4⟩ => exact ⟨q, g, m, n, h1, h2.keep e, h3, h4.keep e⟩
theorem CM.app {w wc W1 W' : World} {bs K0 K1 B : Nat} {H : Frz} {v v' : Value} {ds : List CellD} {g d : Nat} {a b c : ByteArray} {m n : Int} (hc : CM w bs K0 H B v ds wc) (h : CM w bs K1 H B v ds W1) (hd : d ≤ 3) (hBg : wc.heap.size ≤ g) (hat : At bs W1 g (.cells #[.string a, .string b, .string c] 9 (0, 0)))
    (o : Orow W' B 54 3 fC v' (ds ++ [⟨.slice (some ⟨g, 0, none⟩) d 3, [a, b, c].take d, m, n⟩])) (g1 : W1.grownBy W' v.ownBlock) (at1 : v'.ownBlock = v.ownBlock ∨ v'.ownBlock = some W1.heap.size) (hs : a.size ≤ 1000 ∧ b.size ≤ 1000 ∧ c.size ≤ 1000) :
    ∃ H', H.Le H' ∧ CM w bs K1 H' B v' (ds ++ [⟨.slice (some ⟨g, 0, none⟩) d 3, [a, b, c].take d, m, n⟩]) W' := by
  have hn : H g = none := hc.1.fin.none_ hBg
  have hle : H.Le (H.add g (.cells #[.string a, .string b, .string c] 9 (0, 0))) := Frz.le_add hn
  have hown : ∀ q, v.ownBlock = some q → bs < q ∧ (H.add g (.cells #[.string a, .string b, .string c] 9 (0, 0))) q = none := fun q hq => by
    have h1 := hc.2.2.1.lt hq
    refine ⟨by have := hc.2.2.2.2.1; omega, ?_⟩
    rw [Frz.add_other (by omega)]
    exact hc.2.2.2.1 q hq
  have hg1 : g < W1.heap.size := lt_of_heap hat.2
  refine ⟨_, hle, (h.1.keep hat.2 hat.1).grown g1 hown, ?_, o, ?_, h.2.2.2.2.1, Nat.le_trans h.2.2.2.2.2 g1.size⟩
  · intro y hy
    rcases List.mem_append.1 hy with hy | hy
    · exact (h.2.1 y hy).le hle
    · simp at hy
      rw [hy]
      have hlen : ([a, b, c].take d).length = d := by simp; omega
      refine ⟨some ⟨g, 0, none⟩, 3, by rw [hlen], by rw [hlen]; exact hd, ?_, ?_, by rw [hlen]; omega⟩
      · intro i hi
        refine ⟨g, 0, rfl, fun j hj => ?_⟩
        obtain rfl : j = 0 := by omega
        rw [hlen] at hi
        unfold Frz.cell?
        rw [show (⟨g, 0 + i * 1 + 0, none⟩ : Addr).block = g from rfl, Frz.add_at]
        have hi3 : i < 3 := by omega
        simp [fS]
        match i, hi3 with
        | 0, _ => rfl
        | 1, _ => rfl
        | 2, _ => rfl
      · intro s hs'
        have : s ∈ [a, b, c] := List.mem_of_mem_take hs'
        simp at this
        rcases this with rfl | rfl | rfl <;> omega
  · intro q hq
    rcases at1 with at1 | at1
    · exact (hown q (by rw [← at1]; exact hq)).2
    · rw [at1] at hq
      injection hq with hq
      rw [Frz.add_other (by omega)]
      exact h.1.fin.none_ (by omega)
theorem slot_of {a : Act} {s : Nat} {v : Value} (h : a.tmps.getD s undef = v) : a.tmps[s]?.getD undef = v := by rw [← Array.getD_eq_getD_getElem?]; exact h
theorem CM.same {w wr : World} {bs K B : Nat} {H : Frz} {v : Value} {ds : List CellD} {k : Nat} (h : CM w bs (K + k) H B v ds wr) : CM w bs (K + (k + 1)) H B v ds wr := h.more (by omega)

/-- An element of the row changed in one cell. -/
theorem CM.upd {w wr : World} {bs K B go capg : Nat} {H : Frz} {ds : List CellD} (h : CM w bs K H B (.slice (some ⟨go, 0, none⟩) ds.length capg) ds wr) {p : Nat} (hp : p < ds.length) (hle : ds.length ≤ capg) (hB : B ≤ go) (hm : capg ≤ maxLen) {j : Nat} (hj : j < 3) (d' : CellD) {x : Value} (hx : fC d' j = x) (ho : ∀ m, m < 3 → m ≠ j → fC d' m = fC ds[p] m) (hkv : d'.kv = ds[p].kv) (hks : d'.keys = ds[p].keys) :
    wr.cell? ⟨go, p * 3 + j, none⟩ = some (fC ds[p] j) ∧ wr.frozen? ⟨go, p * 3 + j, none⟩ = false ∧ CM w bs K H B (.slice (some ⟨go, 0, none⟩) ds.length capg) (ds.set p d') (wr.setCell ⟨go, p * 3 + j, none⟩ x) := by
  have hne : ds ≠ [] := by intro e; rw [e] at hp; simp at hp
  obtain ⟨g', cap', rest, hv, hle', hB', hlt, hm', hblk, hr⟩ := h.2.2.1.form hne
  injection hv with e1 _ e2
  injection e1 with e1
  injection e1 with e1
  subst e1 e2
  have hnone : H go = none := h.2.2.2.1 go rfl
  refine ⟨hblk.cell p j hp hj, hblk.frozen _, h.1.setCell (p := ⟨go, p * 3 + j, none⟩) (by show bs < go; have := h.2.2.2.2.1; omega) hnone _, ?_, ?_, h.2.2.2.1, h.2.2.2.2.1, by have := h.2.2.2.2.2; simpa [World.setCell] using this⟩
  · intro d hd
    rcases List.mem_or_eq_of_mem_set hd with hd | hd
    · exact h.2.1 d hd
    · rw [hd, hkv, hks]; exact h.2.1 _ (List.getElem_mem hp)
  · have := Orow.of_blk (B := B) (hblk.upd p j hp hj hx ho) hB hm' (by simpa using hle') (by simpa using hr)
    simpa using this

theorem CM.upd0 {w W4 W5 : World} {bs K4 K B go capg : Nat} {H : Frz} {ds : List CellD} (hc : CM w bs K4 H B (.slice (some ⟨go, 0, none⟩) ds.length capg) ds W4) (h : CM w bs K H B (.slice (some ⟨go, 0, none⟩) ds.length capg) ds W5) {p : Nat} (hp : p < ds.length) (hle : ds.length ≤ capg) (hB : B ≤ go) (hm : capg ≤ maxLen)
    {g cap : Nat} {z : ByteArray} {rest : List Value} (hBg : W4.heap.size ≤ g) (h9 : At bs W5 g (.cells ((z :: ds[p].keys).map Value.string ++ rest).toArray 9 (0, 0))) (hz : z.size ≤ 1000) (hsz : ∀ s ∈ ds[p].keys, s.size ≤ 1000000) (hcap : ds[p].keys.length + 1 ≤ cap) (hl : ds[p].keys.length + 1 ≤ 1000000) :
    W5.cell? ⟨go, p * 3, none⟩ = some ds[p].kv ∧ W5.frozen? ⟨go, p * 3, none⟩ = false ∧ ∃ H', H.Le H' ∧ CM w bs K H' B (.slice (some ⟨go, 0, none⟩) ds.length capg) (ds.set p ⟨.slice (some ⟨g, 0, none⟩) (ds[p].keys.length + 1) cap, z :: ds[p].keys, ds[p].many, ds[p].cents⟩) (W5.setCell ⟨go, p * 3, none⟩ (.slice (some ⟨g, 0, none⟩) (ds[p].keys.length + 1) cap)) := by
  have hne : ds ≠ [] := by intro e; rw [e] at hp; simp at hp
  obtain ⟨g', cap', rst, hv, hle', hB', hlt, hm', hblk, hr⟩ := h.2.2.1.form hne
  injection hv with e1 _ e2
  injection e1 with e1
  injection e1 with e1
  subst e1 e2
  have hnone : H go = none := h.2.2.2.1 go rfl
  have hgn : H g = none := hc.1.fin.none_ hBg
  have hgo4 : go < W4.heap.size := (hc.2.2.1.lt rfl).2
  have hgg : go ≠ g := by omega
  have hleH : H.Le (H.add g (.cells ((z :: ds[p].keys).map Value.string ++ rest).toArray 9 (0, 0))) := Frz.le_add hgn
  have hno2 : (H.add g (.cells ((z :: ds[p].keys).map Value.string ++ rest).toArray 9 (0, 0))) go = none := by rw [Frz.add_other hgg]; exact hnone
  have hu := hblk.upd p 0 hp (by omega) (d' := ⟨.slice (some ⟨g, 0, none⟩) (ds[p].keys.length + 1) cap, z :: ds[p].keys, ds[p].many, ds[p].cents⟩) (x := .slice (some ⟨g, 0, none⟩) (ds[p].keys.length + 1) cap) rfl (fun m hm hne => by
    have : m = 1 ∨ m = 2 := by omega
    rcases this with rfl | rfl <;> rfl)
  refine ⟨hblk.cell p 0 hp (by omega), hblk.frozen _, _, hleH, (h.1.keep h9.2 h9.1).setCell (p := ⟨go, p * 3, none⟩) (by show bs < go; have := h.2.2.2.2.1; omega) hno2 _, ?_, ?_, ?_, h.2.2.2.2.1, by have := h.2.2.2.2.2; simpa [World.setCell] using this⟩
  · intro d hd
    rcases List.mem_or_eq_of_mem_set hd with hd | hd
    · exact (h.2.1 d hd).le hleH
    · rw [hd]
      refine ⟨some ⟨g, 0, none⟩, cap, rfl, hcap, ?_, ?_, hl⟩
      · intro i hi
        refine ⟨g, 0, rfl, fun j hj => ?_⟩
        obtain rfl : j = 0 := by omega
        unfold Frz.cell?
        rw [show (⟨g, 0 + i * 1 + 0, none⟩ : Addr).block = g from rfl, Frz.add_at]
        have hi2 : i < ((z :: ds[p].keys).map Value.string).length := by simpa using hi
        simp only [Option.isSome_none, Bool.false_eq_true, if_false, List.getElem?_toArray, Nat.zero_add, Nat.mul_one, Nat.add_zero]
        rw [List.getElem?_append_left hi2, List.getElem?_map, List.getElem?_eq_getElem hi]
        rfl
      · intro s hs
        rcases List.mem_cons.1 hs with rfl | hs
        · omega
        · exact hsz s hs
  · have := Orow.of_blk (B := B) hu hB hm' (by simpa using hle') (by simpa using hr)
    simpa using this
  · intro q hq
    have : q = go := by simp [Value.ownBlock] at hq; exact hq.symm
    rw [this]; exact hno2

/-- What the operations of the line that lengthens the keys leave. -/
def φ22 (bs B0 go p lp capp : Nat) (Ap : Option Addr) (ks : List ByteArray) : Nat → Value → World → Prop
  | 0, x, _ => x = .pointer (some ⟨go, p * 3, none⟩)
  | 1, x, _ => x = .pointer (some ⟨bs, 0, none⟩)
  | 2, x, w => ∃ g, x = .slice (some ⟨g, 0, none⟩) 3 3 ∧ At bs w g (.cells #[.string ⟨#[97]⟩, .string ⟨#[]⟩, .string ⟨#[122]⟩] 9 (0, 0))
  | 3, x, _ => ∃ s : ByteArray, x = .string s ∧ s.size ≤ 1000
  | 4, x, w => ∃ (g : Nat) (s : ByteArray), x = .slice (some ⟨g, 0, none⟩) 1 1 ∧ B0 ≤ g ∧ s.size ≤ 1000 ∧ At bs w g (.cells #[.string s] 9 (0, 0))
  | 5, x, _ => x = .pointer (some ⟨go, p * 3, none⟩)
  | 6, x, _ => x = .pointer (some ⟨go, p * 3, none⟩)
  | 7, x, _ => x = .pointer (some ⟨go, p * 3, none⟩)
  | 8, x, _ => x = .slice Ap lp capp
  | 9, x, w => ∃ (g cap : Nat) (s : ByteArray) (rest : List Value), x = .slice (some ⟨g, 0, none⟩) (lp + 1) cap ∧ lp + 1 ≤ cap ∧ B0 ≤ g ∧ s.size ≤ 1000 ∧ At bs w g (.cells ((s :: ks).map Value.string ++ rest).toArray 9 (0, 0))
  | 10, x, _ => x = .pointer (some ⟨go, p * 3, none⟩)
  | 11, x, _ => x = .pointer (some ⟨go, p * 3, none⟩)
  | _, _, _ => True
theorem φ22_mono {bs B0 go p lp capp : Nat} {Ap : Option Addr} {ks : List ByteArray} (i : Nat) (x : Value) (w w' : World) (hi : i < 12) (e : w.grownBy w' (some bs)) (h : φ22 bs B0 go p lp capp Ap ks i x w) : φ22 bs B0 go p lp capp Ap ks i x w' := by
  match i, hi, h with
  | 0, _, h => exact h
  | 1, _, h => exact h
  | 2, _, ⟨g, h1, h3⟩ => exact ⟨g, h1, h3.keep e⟩
  | 3, _, h => exact h
  | 4, _, ⟨g, s, h1, h2, h4, h3⟩ => exact ⟨g, s, h1, h2, h4, h3.keep e⟩
  | 5, _, h => exact h
  | 6, _, h => exact h
  | 7, _, h => exact h
  | 8, _, h => exact h
  | 9, _, ⟨g, cap, s, rest, h1, h2, h4, h5, h3⟩ => exact ⟨g, cap, s, rest, h1, h2, h4, h5, h3.keep e⟩
  | 10, _, h => exact h
  | 11, _, h => exact h

def CPost (w : World) (bs K : Nat) (H : Frz) (B : Nat) (e : Ending) (W' : World) : Prop := ∃ v H' ds, e = .returned v ∧ H.Le H' ∧ CM w bs (K + 200) H' B v ds W' ∧ ds.length ≤ 8
set_option maxHeartbeats 4000000 in
set_option maxRecDepth 100000 in
theorem Lw.cells {w W : World} {bs K : Nat} {H : Frz} (h : Lw w bs K H W) (hK : K ≤ 1000000000) :
    Calls Try.prog 23 #[.pointer (some ⟨bs, 0, none⟩)] W (CPost w bs K H W.heap.size) := by
  obtain ⟨i0, hi0, hz0, hz1, hz2⟩ := info_parts infoCell'
  obtain ⟨is, his, hy0, hy1, hy2⟩ := info_parts infoStr'
  have hbs := h.lt
  go_enter Try.func23, Try.ntmps23
  go_wp2_with fail
  refine (h.range 0 3 (by omega) (by omega) (by omega) (by omega)).mono ?_
  rintro e W1 ⟨d, rfl, d0, d3, L, g, hz⟩
  obtain ⟨d, rfl⟩ := Int.eq_ofNat_of_zero_le d0
  have C0 : CM w bs (K + 1) H W.heap.size (.slice none 0 0) [] W1 := ⟨L, (by intro d hd; cases hd), Orow.nil _ _ _ _ _, (by intro g hg; cases hg), hbs, by omega⟩
  obtain ⟨H1, le1, hA, C1⟩ := C0.put (.cells #[.string ⟨#[97]⟩, .string ⟨#[98]⟩] 9)
  have HA := Lib.hid hA
  have HLE := Lib.hid le1
  have C1 := Lib.hid C1
  clear L g hz h C0 le1 hA
  go_wp2_with fail
  generalize World.alloc W1 _ = WA at C1
  go_loopw [3, 16] (fun v t wr => ∃ (i : Nat) (H' : Frz) (ds : List CellD), i ≤ 2 ∧ t = .int .i64 i ∧ Hid (H1.Le H') ∧ Hid (CM w bs (K + 1 + 80 * i) H' W.heap.size v ds wr) ∧ ds.length ≤ 4 * i ∧ KB ds) (fun _ t _ => 2 - (intOf t).toNat)
  case atStart => exact ⟨0, H1, [], by omega, rfl, Frz.Le.refl _, C1, by simp, (by intro d hd; cases hd)⟩
  case round =>
    obtain ⟨i, H2, ds, hi, rfl, hle2, C, hdl, hkb⟩ := hrel
    clear C1
    by_cases hlt : i < 2
    · have di : decide ((i : Int) < 2) = true := by simp; omega
      have ca := two_cell C.out.lw.fin (hle2.out _ _ HA.out) i hlt
      have hsa := two_size 97 98 i hlt
      generalize (two 97 98)[i]'hlt = sa at ca hsa
      obtain ⟨H3, le3, hB, C3⟩ := C.out.put (.cells #[.string ⟨#[120]⟩, .string ⟨#[121]⟩] 9)
      have HB := Lib.hid hB
      have HLE3 := Lib.hid (hle2.out.trans le3)
      have C3 := Lib.hid C3
      clear hB le3
      obtain ⟨wo, rfl⟩ : ∃ wo : World, wo = wr := ⟨_, rfl⟩
      go_wp2_with fail
      generalize World.alloc wo _ = WB at C3
      clear ca
      go_loopw [3, 22] (fun v t wr => ∃ (j : Nat) (H' : Frz) (ds : List CellD), j ≤ 2 ∧ t = .int .i64 j ∧ Hid (H3.Le H') ∧ Hid (CM w bs (K + 1 + 80 * i + 40 * j) H' W.heap.size v ds wr) ∧ ds.length ≤ 4 * i + 2 * j ∧ KB ds) (fun _ t _ => 2 - (intOf t).toNat)
      case atStart => exact ⟨0, H3, ds, by omega, rfl, Frz.Le.refl _, C3, by omega, hkb⟩
      case round =>
        obtain ⟨j, H4, ds, hj, rfl, hle4, C, hdl, hkb⟩ := hrel
        clear C3
        by_cases hltj : j < 2
        · have dj : decide ((j : Int) < 2) = true := by simp; omega
          have cb := two_cell C.out.lw.fin (hle4.out _ _ HB.out) j hltj
          have hsb := two_size 120 121 j hltj
          generalize (two 120 121)[j]'hltj = sb at cb hsb
          obtain ⟨H5, le5, hC, C5⟩ := C.out.put (.cells #[.string ⟨#[109]⟩, .string ⟨#[110]⟩] 9)
          have HC := Lib.hid hC
          have HLE5 := Lib.hid (hle4.out.trans le5)
          have C5 := Lib.hid C5
          clear hC le5
          obtain ⟨wo2, rfl⟩ : ∃ wo : World, wo = wr := ⟨_, rfl⟩
          go_wp2_with fail
          generalize World.alloc wo2 _ = WC at C5
          clear cb
          go_loopw [3, 28] (fun v t wr => ∃ (k : Nat) (H' : Frz) (ds : List CellD), k ≤ 2 ∧ t = .int .i64 k ∧ Hid (H5.Le H') ∧ Hid (CM w bs (K + 1 + 80 * i + 40 * j + 20 * k) H' W.heap.size v ds wr) ∧ ds.length ≤ 4 * i + 2 * j + k ∧ KB ds) (fun _ t _ => 2 - (intOf t).toNat)
          case atStart => exact ⟨0, H5, ds, by omega, rfl, Frz.Le.refl _, C5, by omega, hkb⟩
          case round =>
            obtain ⟨k, H6, ds, hk, rfl, hle6, C, hdl, hkb⟩ := hrel
            clear C5
            by_cases hltk : k < 2
            · have dk : decide ((k : Int) < 2) = true := by simp; omega
              have cc := two_cell C.out.lw.fin (hle6.out _ _ HC.out) k hltk
              have hsc := two_size 109 110 k hltk
              generalize (two 109 110)[k]'hltk = sc at cc hsc
              obtain ⟨wo3, rfl⟩ : ∃ wo : World, wo = wr := ⟨_, rfl⟩
              go_upto_region 12 with (fail)
              clear cc
              go_cut [57] (fun s57 wx => ∃ t : Bool, s57 = .bool t ∧ Hid (CM w bs (K + 1 + 80 * i + 40 * j + 20 * k + 1) H6 W.heap.size u3 ds wx))
              case first =>
                go_wp2_with (go_at_call 45; refine (C.out.lw.flip 3 (by omega) (by omega)).mono ?_; rintro e W' ⟨t, rfl, L', g', -⟩)
                all_goals (go_meet; first | exact ⟨_, rfl, C.out.asked L' g'⟩ | exact ⟨_, rfl, C.out.more (by omega)⟩)
              case rest =>
                obtain ⟨t, rfl, Cx⟩ := hcut
                clear C
                cases t with
                | true =>
                  go_wp2_with fail
                  go_roundw
                  case rel => exact ⟨k + 1, H6, ds, by omega, by go_num, hle6, Cx.out.more (by omega), by omega, hkb⟩
                  case measure => simp [intOf]; omega
                | false =>
                  have hbw := Cx.out.lw.lt
                  go_wp2_with fail
                  refine wp_region_conc 15 121 (φ13 bs wc.heap.size u3 sa sb sc d) (fun n W' => CM w bs (K + 1 + 80 * i + 40 * j + 20 * k + 1 + n) H6 W.heap.size u3 ds W' ∧ wc.heap.size ≤ W'.heap.size) (fun a b => a.grownBy b (some bs)) (by kernel_rfl) (by kernel_rfl) (by rfl) ⟨Cx.out.drew, Nat.le_refl _⟩ φ13_mono ?_ ?_
                  · intro n o hn ho a W2 kk hkk hJ hkn
                    have hcs : n = 0 ∨ n = 1 ∨ n = 2 ∨ n = 3 ∨ n = 4 ∨ n = 5 ∨ n = 6 ∨ n = 7 ∨ n = 8 ∨ n = 9 ∨ n = 10 ∨ n = 11 ∨ n = 12 ∨ n = 13 ∨ n = 14 := by omega
                    rcases hcs with rfl | rfl | rfl | rfl | rfl | rfl | rfl | rfl | rfl | rfl | rfl | rfl | rfl | rfl | rfl
                    · obtain rfl := Option.some.inj ho
                      exact ⟨hkn 3 (by decide), ⟨hJ.1.same, hJ.2⟩, World.grownBy.refl _ _⟩
                    · obtain rfl := Option.some.inj ho
                      exact ⟨hkn 6 (by decide), ⟨hJ.1.same, hJ.2⟩, World.grownBy.refl _ _⟩
                    · obtain rfl := Option.some.inj ho
                      exact ⟨hkn 8 (by decide), ⟨hJ.1.same, hJ.2⟩, World.grownBy.refl _ _⟩
                    · obtain rfl := Option.some.inj ho
                      exact ⟨hkn 10 (by decide), ⟨hJ.1.same, hJ.2⟩, World.grownBy.refl _ _⟩
                    · obtain rfl := Option.some.inj ho
                      have h1 := slot_of (hkn 59 (by decide) : a.tmps.getD 59 undef = .string sa)
                      have h2 := slot_of (hkn 60 (by decide) : a.tmps.getD 60 undef = .string sb)
                      have h3 := slot_of (hkn 61 (by decide) : a.tmps.getD 61 undef = .string sc)
                      clear hkn ho
                      simp only [OpV, execOp]
                      simp [go_sem, h1, h2, h3]
                      exact ⟨⟨W2.heap.size, rfl, hJ.2, At.new _ hJ.1.lw.lt⟩, ⟨(hJ.1.alloc _).same, by have := hJ.2; omega⟩, grown_alloc _ _⟩
                    · obtain rfl := Option.some.inj ho
                      exact ⟨hkn 4 (by decide), ⟨hJ.1.same, hJ.2⟩, World.grownBy.refl _ _⟩
                    · obtain rfl := Option.some.inj ho
                      obtain ⟨g, h1, h2, h3⟩ : ∃ g, a.tmps.getD 62 undef = .slice (some ⟨g, 0, none⟩) 3 3 ∧ wc.heap.size ≤ g ∧ At bs W2 g (.cells #[.string sa, .string sb, .string sc] 9 (0, 0)) := hkn 62 (by decide)
                      replace h1 := slot_of h1
                      have h4 := slot_of (hkn 63 (by decide) : a.tmps.getD 63 undef = .int .i64 d)
                      clear hkn ho
                      simp only [OpV, execOp]
                      simp [go_sem, h1, h4, d3]
                      exact ⟨⟨g, rfl, h2, h3⟩, ⟨hJ.1.same, hJ.2⟩, World.grownBy.refl _ _⟩
                    · obtain rfl := Option.some.inj ho
                      exact ⟨hkn 0 (by decide), ⟨hJ.1.same, hJ.2⟩, World.grownBy.refl _ _⟩
                    · obtain rfl := Option.some.inj ho
                      clear hkn ho
                      simp only [OpV, execOp]
                      simp [go_sem]
                      exact ⟨⟨W2.heap.size, rfl, At.new _ hJ.1.lw.lt⟩, ⟨(hJ.1.alloc _).same, by have := hJ.2; omega⟩, grown_alloc _ _⟩
                    · obtain rfl := Option.some.inj ho
                      have h1 := slot_of (hkn 65 (by decide) : a.tmps.getD 65 undef = .pointer (some ⟨bs, 0, none⟩))
                      obtain ⟨g, h2, h3⟩ : ∃ g, a.tmps.getD 66 undef = .slice (some ⟨g, 0, none⟩) 5 5 ∧ At bs W2 g (.cells #[.int .i64 0, .int .i64 1, .int .i64 5, .int .i64 999999, .int .i64 1000000] 3 (0, 0)) := hkn 66 (by decide)
                      replace h2 := slot_of h2
                      clear hkn ho
                      simp only [OpV, execOp]
                      simp [go_sem, h1, h2]
                      exact (hJ.1.lw.pick (some ⟨g, 0, none⟩) 5 [0, 1, 5, 999999, 1000000] (Ints.of_row h3.2 rfl) (fun b off e => by injection e with e; injection e with e1 e2; rw [← e1]; exact h3.1) (by simp) (by simp) (by omega)).mono fun e w'' ⟨z, he, _, L', g', hz'⟩ => ⟨_, he, ⟨z, rfl⟩, ⟨hJ.1.asked L' g', by have := hJ.2; omega⟩, g'⟩
                    · obtain rfl := Option.some.inj ho
                      exact ⟨hkn 0 (by decide), ⟨hJ.1.same, hJ.2⟩, World.grownBy.refl _ _⟩
                    · obtain rfl := Option.some.inj ho
                      clear hkn ho
                      simp only [OpV, execOp]
                      simp [go_sem]
                      exact ⟨⟨W2.heap.size, rfl, At.new _ hJ.1.lw.lt⟩, ⟨(hJ.1.alloc _).same, by have := hJ.2; omega⟩, grown_alloc _ _⟩
                    · obtain rfl := Option.some.inj ho
                      have h1 := slot_of (hkn 68 (by decide) : a.tmps.getD 68 undef = .pointer (some ⟨bs, 0, none⟩))
                      obtain ⟨g, h2, h3⟩ : ∃ g, a.tmps.getD 69 undef = .slice (some ⟨g, 0, none⟩) 5 5 ∧ At bs W2 g (.cells #[.int .i64 0, .int .i64 7, .int .i64 (-7), .int .i64 1000000000000, .int .i64 (-1000000000000)] 3 (0, 0)) := hkn 69 (by decide)
                      replace h2 := slot_of h2
                      clear hkn ho
                      simp only [OpV, execOp]
                      simp [go_sem, h1, h2]
                      exact (hJ.1.lw.pick (some ⟨g, 0, none⟩) 5 [0, 7, -7, 1000000000000, -1000000000000] (Ints.of_row h3.2 rfl) (fun b off e => by injection e with e; injection e with e1 e2; rw [← e1]; exact h3.1) (by simp) (by simp) (by omega)).mono fun e w'' ⟨z, he, _, L', g', hz'⟩ => ⟨_, he, ⟨z, rfl⟩, ⟨hJ.1.asked L' g', by have := hJ.2; omega⟩, g'⟩
                    · obtain rfl := Option.some.inj ho
                      obtain ⟨g, h1, h2, h3⟩ : ∃ g, a.tmps.getD 64 undef = .slice (some ⟨g, 0, none⟩) d 3 ∧ wc.heap.size ≤ g ∧ At bs W2 g (.cells #[.string sa, .string sb, .string sc] 9 (0, 0)) := hkn 64 (by decide)
                      obtain ⟨m, h4⟩ : ∃ z, a.tmps.getD 67 undef = .int .i64 z := hkn 67 (by decide)
                      obtain ⟨n, h5⟩ : ∃ z, a.tmps.getD 70 undef = .int .i64 z := hkn 70 (by decide)
                      replace h1 := slot_of h1
                      replace h4 := slot_of h4
                      replace h5 := slot_of h5
                      clear hkn ho
                      simp only [OpV, execOp]
                      simp [go_sem, h1, h4, h5]
                      exact ⟨⟨g, m, n, rfl, h2, h3⟩, ⟨hJ.1.same, hJ.2⟩, World.grownBy.refl _ _⟩
                    · obtain rfl := Option.some.inj ho
                      obtain ⟨g, m, n, h1, h2, h3⟩ : ∃ g m n, a.tmps.getD 71 undef = .agg #[.slice (some ⟨g, 0, none⟩) d 3, .int .i64 m, .int .i64 n] ∧ wc.heap.size ≤ g ∧ At bs W2 g (.cells #[.string sa, .string sb, .string sc] 9 (0, 0)) := hkn 71 (by decide)
                      replace h1 := slot_of h1
                      clear hkn ho
                      simp only [OpV, execOp]
                      simp [go_sem, h1]
                      exact ⟨⟨W2.heap.size, g, m, n, rfl, At.new _ hJ.1.lw.lt, h2, h3.keep (grown_alloc _ _)⟩, ⟨(hJ.1.alloc _).same, by have := hJ.2; omega⟩, grown_alloc _ _⟩
                  · intro x W5 hJ5 hφ
                    have e0 : x 0 = u3 := hφ 0 (by omega)
                    obtain ⟨q, g, m, n, e14, hq, hBg, hat⟩ : ∃ q g m n, x 14 = .slice (some ⟨q, 0, none⟩) 1 1 ∧ At bs W5 q (.cells #[.slice (some ⟨g, 0, none⟩) d 3, .int .i64 m, .int .i64 n] 54 (0, 0)) ∧ wc.heap.size ≤ g ∧ At bs W5 g (.cells #[.string sa, .string sb, .string sc] 9 (0, 0)) := hφ 14 (by omega)
                    have hstep := Lib.hid (fun v' w' o' g1 at1 => CM.app (v' := v') (W' := w') (d := d) (m := m) (n := n) Cx.out hJ5.1 (by omega) hBg hat o' g1 at1 ⟨hsa, hsb, hsc⟩)
                    have hOr := Lib.hid hJ5.1.2.2.1
                    have hQ := Lib.hid hq.2
                    have hB5 := hJ5.1.2.2.2.2.2
                    have hds : ds.length ≤ 8 := by omega
                    clear hφ hJ5 hq hat
                    simp only [List.drop_succ_cons, List.drop_zero, List.take_succ_cons, List.take_zero, putAll, Nat.reduceAdd, e0, e14]
                    clear e0 e14
                    generalize x 1 = y1
                    generalize x 2 = y2
                    generalize x 3 = y3
                    generalize x 4 = y4
                    generalize x 5 = y5
                    generalize x 6 = y6
                    generalize x 7 = y7
                    generalize x 8 = y8
                    generalize x 9 = y9
                    generalize x 10 = y10
                    generalize x 11 = y11
                    generalize x 12 = y12
                    generalize x 13 = y13
                    clear x
                    simp only [Act.put, List.setIfInBounds_toArray, List.set_cons_succ, List.set_cons_zero]
                    go_wp2_with (at_builtin; refine wpList_app_any rfl _ _ 48 rfl W.heap.size 54 i0 (.agg #[.slice none 0 0, .int .i64 0, .int .i64 0]) 3 40 Try.underlying48 hi0 hz0 hz1 hz2 rfl (by decide) fC u3 ds rfl hOr.out ⟨.slice (some ⟨g, 0, none⟩) d 3, [sa, sb, sc].take d, m, n⟩ q #[.slice (some ⟨g, 0, none⟩) d 3, .int .i64 m, .int .i64 n] 54 rfl hQ.out rfl (by simp [Value.oneCell']) (by omega) (by omega) hB5 ?_; intro v1 w2 o1 g1 b1 at1)
                    obtain ⟨H7, le7, C7⟩ := hstep.out v1 w2 o1 g1 at1
                    have HL7 := Lib.hid (hle6.out.trans le7)
                    have C7 := Lib.hid C7
                    clear o1 g1 b1 at1 hstep hOr hQ le7
                    go_wp2_with fail
                    go_roundw
                    case rel => exact ⟨k + 1, H7, _, by omega, by go_num, HL7, C7.out.more (by omega), by simp; omega, KB.snoc hkb⟩
                    case measure => simp [intOf]; omega
            · have hkeep := Lib.hid (C.out.more (K' := K + 1 + 80 * i + 40 * (j + 1)) (by omega))
              go_wp2_with fail
              go_roundw
              case rel => exact ⟨j + 1, H6, ds, by omega, by go_num, HLE5.out.trans hle6.out, hkeep, by omega, hkb⟩
              case measure => simp [intOf]; omega
        · have hkeep := Lib.hid (C.out.more (K' := K + 1 + 80 * (i + 1)) (by omega))
          go_wp2_with fail
          go_roundw
          case rel => exact ⟨i + 1, H4, ds, by omega, by go_num, HLE3.out.trans hle4.out, hkeep, by omega, hkb⟩
          case measure => simp [intOf]; omega
    · have CE := Lib.hid (C.out.more (K' := K + 161) (by omega))
      clear C
      go_wp2_with fail
      refine (CE.out.lw.flip 12 (by omega) (by omega)).mono ?_
      rintro e W2 ⟨t, rfl, L2, g2, -⟩
      have C2 := Lib.hid (CE.out.asked L2 g2)
      clear L2 g2 CE
      have hdl8 : ds.length ≤ 8 := by omega
      have HLEH := Lib.hid (HLE.out.trans hle2.out)
      cases t with
      | false =>
        go_wp2_with fail
        go_ret
        exact ⟨u3, H2, ds, rfl, HLEH.out, C2.out.more (by omega), hdl8⟩
      | true =>
        by_cases hds : ds = []
        · obtain ⟨Au, capu, hu, hleu⟩ := C2.out.2.2.1.slice
          have C2' := C2
          subst hds
          simp only [List.length_nil] at hu
          subst hu
          go_wp2_with fail
          go_ret
          exact ⟨_, H2, [], rfl, HLEH.out, C2'.out.more (by omega), by simp⟩
        · have hpos : 0 < ds.length := List.length_pos_iff.2 hds
          obtain ⟨go, capg, rest, hv, hleg, hBg, hglt, hmg, hblk, hrg⟩ := C2.out.2.2.1.form hds
          subst hv
          have hp2 : (0 : Int) < ds.length := by omega
          clear hblk hglt
          go_wp2_with fail
          refine (C2.out.lw.next' _ (by omega) (by omega) (by omega)).mono ?_
          rintro e W3 ⟨p, rfl, p0, p1, L3, g3, -⟩
          obtain ⟨p, rfl⟩ := Int.eq_ofNat_of_zero_le p0
          have C3 := Lib.hid (C2.out.asked L3 g3)
          clear L3 g3 C2
          go_wp2_with fail
          refine (C3.out.lw.next' 3 (by omega) (by omega) (by omega)).mono ?_
          rintro e W4 ⟨sw, rfl, s0, s1, L4, g4, -⟩
          have C4 := Lib.hid (C3.out.asked L4 g4)
          clear L4 g4 C3
          have hcs : sw = 0 ∨ sw = 1 ∨ sw = 2 := by omega
          have hpl : p < ds.length := by omega
          rcases hcs with rfl | rfl | rfl
          · have hsp := C4.out.2.1 _ (List.getElem_mem hpl)
            obtain ⟨Ap, capp, hkv, hlep, hRp, hszp, hlp⟩ := id hsp
            have HRP := Lib.hid hRp
            have HKV := Lib.hid hkv
            have HSZP := Lib.hid hszp
            clear hRp hkv hszp hsp
            go_wp2_with fail
            refine wp_region_conc 12 121 (φ22 bs W4.heap.size go p ds[p].keys.length capp Ap ds[p].keys) (fun n W' => CM w bs (K + 161 + 1 + 1 + 1 + n) H2 W.heap.size (.slice (some ⟨go, 0, none⟩) ds.length capg) ds W' ∧ W4.heap.size ≤ W'.heap.size) (fun a b => a.grownBy b (some bs)) (by kernel_rfl) (by kernel_rfl) (by rfl) ⟨C4.out.drew, Nat.le_refl _⟩ φ22_mono ?_ ?_
            · intro n o hn ho a W2 kk hkk hJ hkn
              have hcs : n = 0 ∨ n = 1 ∨ n = 2 ∨ n = 3 ∨ n = 4 ∨ n = 5 ∨ n = 6 ∨ n = 7 ∨ n = 8 ∨ n = 9 ∨ n = 10 ∨ n = 11 := by omega
              rcases hcs with rfl | rfl | rfl | rfl | rfl | rfl | rfl | rfl | rfl | rfl | rfl | rfl
              · obtain rfl := Option.some.inj ho
                exact ⟨hkn 11 (by decide), ⟨hJ.1.same, hJ.2⟩, World.grownBy.refl _ _⟩
              · obtain rfl := Option.some.inj ho
                exact ⟨hkn 0 (by decide), ⟨hJ.1.same, hJ.2⟩, World.grownBy.refl _ _⟩
              · obtain rfl := Option.some.inj ho
                clear hkn ho
                simp only [OpV, execOp]
                simp [go_sem]
                exact ⟨⟨W2.heap.size, rfl, At.new _ hJ.1.lw.lt⟩, ⟨(hJ.1.alloc _).same, by have := hJ.2; omega⟩, grown_alloc _ _⟩
              · obtain rfl := Option.some.inj ho
                have h1 := slot_of (hkn 101 (by decide) : a.tmps.getD 101 undef = .pointer (some ⟨bs, 0, none⟩))
                obtain ⟨g, h2, h3⟩ : ∃ g, a.tmps.getD 102 undef = .slice (some ⟨g, 0, none⟩) 3 3 ∧ At bs W2 g (.cells #[.string ⟨#[97]⟩, .string ⟨#[]⟩, .string ⟨#[122]⟩] 9 (0, 0)) := hkn 102 (by decide)
                replace h2 := slot_of h2
                clear hkn ho
                simp only [OpV, execOp]
                simp [go_sem, h1, h2]
                exact (hJ.1.lw.one (some ⟨g, 0, none⟩) 3 [⟨#[97]⟩, ⟨#[]⟩, ⟨#[122]⟩] (StrsW.of_row h3.2 rfl) (fun b off e => by injection e with e; injection e with e1 e2; rw [← e1]; exact h3.1) (by simp) (by simp) (by omega)).mono fun e w'' ⟨z, he, hz, L', g', hz'⟩ => ⟨_, he, ⟨z, rfl, three_size hz⟩, ⟨hJ.1.asked L' g', by have := hJ.2; omega⟩, g'⟩
              · obtain rfl := Option.some.inj ho
                obtain ⟨z, h1, hz⟩ : ∃ s : ByteArray, a.tmps.getD 103 undef = .string s ∧ s.size ≤ 1000 := hkn 103 (by decide)
                replace h1 := slot_of h1
                clear hkn ho
                simp only [OpV, execOp]
                simp [go_sem, h1]
                exact ⟨⟨W2.heap.size, z, rfl, hJ.2, hz, At.new _ hJ.1.lw.lt⟩, ⟨(hJ.1.alloc _).same, by have := hJ.2; omega⟩, grown_alloc _ _⟩
              · obtain rfl := Option.some.inj ho
                exact ⟨hkn 11 (by decide), ⟨hJ.1.same, hJ.2⟩, World.grownBy.refl _ _⟩
              · obtain rfl := Option.some.inj ho
                have h1 := slot_of (hkn 105 (by decide) : a.tmps.getD 105 undef = .pointer (some ⟨go, p * 3, none⟩))
                clear hkn ho
                simp only [OpV, execOp]
                simp [go_sem, h1]
                exact ⟨rfl, ⟨hJ.1.same, hJ.2⟩, World.grownBy.refl _ _⟩
              · obtain rfl := Option.some.inj ho
                have h1 := slot_of (hkn 106 (by decide) : a.tmps.getD 106 undef = .pointer (some ⟨go, p * 3, none⟩))
                clear hkn ho
                simp only [OpV, execOp]
                simp [go_sem, h1]
                exact ⟨rfl, ⟨hJ.1.same, hJ.2⟩, World.grownBy.refl _ _⟩
              · obtain rfl := Option.some.inj ho
                have h1 := slot_of (hkn 107 (by decide) : a.tmps.getD 107 undef = .pointer (some ⟨go, p * 3, none⟩))
                have hc := (hJ.1.upd hpl hleg hBg hmg (j := 0) (by omega) ds[p] rfl (fun _ _ _ => rfl) rfl rfl).1
                replace hc : W2.cell? ⟨go, p * 3, none⟩ = some ds[p].kv := hc
                rw [HKV.out] at hc
                clear hkn ho
                simp only [OpV, execOp]
                simp [go_sem, h1, hc]
                exact ⟨rfl, ⟨hJ.1.same, hJ.2⟩, World.grownBy.refl _ _⟩
              · obtain rfl := Option.some.inj ho
                obtain ⟨g, z, h1, h2, h3, h4⟩ : ∃ (g : Nat) (s : ByteArray), a.tmps.getD 104 undef = .slice (some ⟨g, 0, none⟩) 1 1 ∧ W4.heap.size ≤ g ∧ s.size ≤ 1000 ∧ At bs W2 g (.cells #[.string s] 9 (0, 0)) := hkn 104 (by decide)
                have h5 : a.tmps.getD 108 undef = .slice Ap ds[p].keys.length capp := hkn 108 (by decide)
                obtain ⟨v', w', g', cap', hrun, hv', hc', hg', ⟨rest', hh'⟩, hgr⟩ := run_append_full (P := Try.prog) W2 42 42 9 is _ 16 Try.underlying42 his hy0 hy1 hy2 rfl g (.string z) h4.2 Ap ds[p].keys.length capp (ds[p].keys.map Value.string) (by simp) (fun j u hu => by
                  rw [List.getElem?_map] at hu
                  cases e : ds[p].keys[j]? with
                  | none => rw [e] at hu; cases hu
                  | some y =>
                    rw [e] at hu
                    simp at hu
                    subst hu
                    have hj := (List.getElem?_eq_some_iff.1 e).1
                    obtain ⟨b, off, hA, _, hc⟩ := Ss.at_ HRP.out hJ.1.lw.fin hj
                    refine ⟨_, hA, ?_⟩
                    rw [Addr.add_lit, hc]
                    have := (List.getElem?_eq_some_iff.1 e).2
                    rw [this]) (by omega) (by omega)
                have hgr2 : W2.grownBy w' (some bs) := ⟨hgr.os, hgr.tape, hgr.output, hgr.size, fun k hk _ => hgr.block k hk (by simp)⟩
                have hbel : Below W2.heap.size W2 w' := ⟨hgr.os, hgr.tape, hgr.output, hgr.size, fun k hk => hgr.block k hk (by simp)⟩
                refine OpV.append (.tmp 104) (.tmp 108) 42 _ _ v' rfl h1 h5 hrun ⟨⟨g', cap', z, rest', hv', hc', ?_, h3, ?_, ?_⟩, ⟨(hJ.1.call hbel).same, Nat.le_trans hJ.2 hgr.size⟩, hgr2⟩
                · rcases hg' with rfl | hg'
                  · exact h2
                  · have := hJ.2; omega
                · have := hJ.1.lw.lt
                  rcases hg' with rfl | hg'
                  · exact h4.1
                  · omega
                · simpa using hh'
              · obtain rfl := Option.some.inj ho
                have h1 := slot_of (hkn 100 (by decide) : a.tmps.getD 100 undef = .pointer (some ⟨go, p * 3, none⟩))
                clear hkn ho
                simp only [OpV, execOp]
                simp [go_sem, h1]
                exact ⟨rfl, ⟨hJ.1.same, hJ.2⟩, World.grownBy.refl _ _⟩
              · obtain rfl := Option.some.inj ho
                have h1 := slot_of (hkn 110 (by decide) : a.tmps.getD 110 undef = .pointer (some ⟨go, p * 3, none⟩))
                clear hkn ho
                simp only [OpV, execOp]
                simp [go_sem, h1]
                exact ⟨rfl, ⟨hJ.1.same, hJ.2⟩, World.grownBy.refl _ _⟩
            · intro x W5 hJ5 hφ
              obtain ⟨g, cap, z, rst, e9, hc9, hB9, hz9, h9⟩ : ∃ (g cap : Nat) (s : ByteArray) (rest : List Value), x 9 = .slice (some ⟨g, 0, none⟩) (ds[p].keys.length + 1) cap ∧ ds[p].keys.length + 1 ≤ cap ∧ W4.heap.size ≤ g ∧ s.size ≤ 1000 ∧ At bs W5 g (.cells ((s :: ds[p].keys).map Value.string ++ rest).toArray 9 (0, 0)) := hφ 9 (by omega)
              have e11 : x 11 = .pointer (some ⟨go, p * 3, none⟩) := hφ 11 (by omega)
              obtain ⟨cell0, fr0, H7, le7, C7⟩ := CM.upd0 C4.out hJ5.1 hpl hleg hBg hmg hB9 h9 hz9 HSZP.out hc9 (by have := hkb _ (List.getElem_mem hpl); omega)
              rw [HKV.out] at cell0
              have HL7 := Lib.hid (HLEH.out.trans le7)
              have HC7 := Lib.hid C7
              clear hφ hJ5 h9 C7 le7 C4
              simp only [List.drop_succ_cons, List.drop_zero, List.take_succ_cons, List.take_zero, putAll, Nat.reduceAdd, e9, e11]
              clear e9 e11
              generalize x 0 = y0
              generalize x 1 = y1
              generalize x 2 = y2
              generalize x 3 = y3
              generalize x 4 = y4
              generalize x 5 = y5
              generalize x 6 = y6
              generalize x 7 = y7
              generalize x 8 = y8
              generalize x 10 = y10
              clear x
              simp only [Act.put, List.setIfInBounds_toArray, List.set_cons_succ, List.set_cons_zero]
              go_wp2_with fail
              go_ret
              exact ⟨_, H7, _, rfl, HL7.out, HC7.out.more (by omega), by simpa using hdl8⟩
          · obtain ⟨H5, le5, hx5, C5⟩ := C4.out.put (.cells #[.int .i64 (-1), .int .i64 1000001] 3)
            have hI : Ints (W4.alloc (.cells #[.int .i64 (-1), .int .i64 1000001] 3)) (some ⟨W4.heap.size, 0, none⟩) [-1, 1000001] := Ints.of_row (heap_at rfl) rfl
            have hne := C4.out.lw.lt
            go_wp2_with fail
            refine (C5.lw.pick _ _ [-1, 1000001] hI (fun b off e => by injection e with e; injection e with e1 e2; omega) (by simp) (by simp) (by omega)).mono ?_
            rintro e W6 ⟨z, rfl, hz6, L6, g6, -⟩
            have C6 := C5.asked L6 g6
            obtain ⟨cell1, fr1, hfin⟩ := C6.upd hpl hleg hBg hmg (j := 1) (by omega) ⟨ds[p].kv, ds[p].keys, z, ds[p].cents⟩ (x := .int .i64 z) rfl (by intro m hm hne; have : m = 0 ∨ m = 2 := (by omega); rcases this with rfl | rfl <;> rfl) rfl rfl
            have HFIN := Lib.hid hfin
            have HLE5 := Lib.hid (HLEH.out.trans le5)
            clear hI C5 C6 L6 g6 hfin hz6 hx5 le5
            go_wp2_with fail
            go_ret
            exact ⟨_, H5, _, rfl, HLE5.out, HFIN.out.more (by omega), by simpa using hdl8⟩
          · obtain ⟨H5, le5, hx5, C5⟩ := C4.out.put (.cells #[.int .i64 1000000000001, .int .i64 (-1000000000001)] 3)
            have hI : Ints (W4.alloc (.cells #[.int .i64 1000000000001, .int .i64 (-1000000000001)] 3)) (some ⟨W4.heap.size, 0, none⟩) [1000000000001, -1000000000001] := Ints.of_row (heap_at rfl) rfl
            have hne := C4.out.lw.lt
            go_wp2_with fail
            refine (C5.lw.pick _ _ [1000000000001, -1000000000001] hI (fun b off e => by injection e with e; injection e with e1 e2; omega) (by simp) (by simp) (by omega)).mono ?_
            rintro e W6 ⟨z, rfl, hz6, L6, g6, -⟩
            have C6 := C5.asked L6 g6
            obtain ⟨cell1, fr1, hfin⟩ := C6.upd hpl hleg hBg hmg (j := 2) (by omega) ⟨ds[p].kv, ds[p].keys, ds[p].many, z⟩ (x := .int .i64 z) rfl (by intro m hm hne; have : m = 0 ∨ m = 1 := (by omega); rcases this with rfl | rfl <;> rfl) rfl rfl
            have HFIN := Lib.hid hfin
            have HLE5 := Lib.hid (HLEH.out.trans le5)
            clear hI C5 C6 L6 g6 hfin hz6 hx5 le5
            go_wp2_with fail
            go_ret
            exact ⟨_, H5, _, rfl, HLE5.out, HFIN.out.more (by omega), by simpa using hdl8⟩
end Go.Proofs.Ytadfoaopamlnpaa
