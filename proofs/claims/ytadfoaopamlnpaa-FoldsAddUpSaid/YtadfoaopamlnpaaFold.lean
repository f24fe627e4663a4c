/- measure.Fold: cells added up over all dimensions but some. -/
import Derived.Test.YtadfoaopamlnpaaFoldC
import Derived.Deep.CutBlock
import Derived.Deep.DeepCutAuto
import Derived.Deep.RegionHeld3
import Derived.Deep.RegionLaw
import Derived.Deep.AppendLies
namespace Go.Proofs.Ytadfoaopamlnpaa
set_option linter.unusedVariables false
open Go.RowKit

theorem infoCell : (Try.prog.info? 54).map (fun i => (i.zero, i.size, i.bytes)) = some (some (.agg #[.slice none 0 0, .int .i64 0, .int .i64 0]), 3, 40) := by kernel_rfl
theorem infoStr : (Try.prog.info? 9).map (fun i => (i.zero, i.size, i.bytes)) = some (some (.string ⟨#[]⟩), 1, 16) := by kernel_rfl

def fI (z : Nat) (_ : Nat) : Value := .int .i64 (z : Int)
/-- The keys that are kept. -/
def kk (ks : List Nat) (keys : List ByteArray) : List ByteArray := ks.map fun k => keys.getD k ByteArray.empty
def proj (ks : List Nat) (d : CellD) : K3 := (kk ks d.keys, d.many, d.cents)
theorem kk_snoc {ks : List Nat} {j : Nat} (h : j < ks.length) (keys : List ByteArray) : kk (ks.take (j + 1)) keys = kk (ks.take j) keys ++ [keys.getD ks[j] ByteArray.empty] := by
  unfold kk
  rw [List.take_succ_eq_append_getElem h, List.map_append]
  rfl

/-- The rows that Fold makes: so far. -/
def F2 (H : Frz) (w : World) (B : Nat) (ks : List Nat) (ds : List CellD) (i : Nat) (v : Value) (wr : World) : Prop :=
  ∃ (H' : Frz) (xs : List CellD), H.Le H' ∧ H'.In wr ∧ CellsR H' xs ∧ xs.map CellD.data = (ds.take i).map (proj ks) ∧ Orow wr B 54 3 fC v xs ∧ (∀ g, v.ownBlock = some g → H' g = none) ∧ Below w.heap.size w wr ∧ B ≤ wr.heap.size
/-- The keys of one row, in the making. -/
def F3 (W2 : World) (xb : Nat) (many cents : Int) (ks : List ByteArray) (wi : World) : Prop :=
  ∃ u : Value, wi.heap[xb]? = some (.cells #[u, .int .i64 many, .int .i64 cents] 54 (0, 0)) ∧ Orow wi (xb + 1) 9 1 fS u ks ∧ Below xb W2 wi ∧ xb < wi.heap.size

theorem box_cells {w : World} {g : Nat} {x y z : Value} {T : TypeId} (e : w.heap[g]? = some (.cells #[x, y, z] T (0, 0))) :
    w.cell? ⟨g, 0, none⟩ = some x ∧ w.cell? ⟨g, 1, none⟩ = some y ∧ w.cell? ⟨g, 2, none⟩ = some z ∧ w.frozen? ⟨g, 0, none⟩ = false ∧ w.frozen? ⟨g, 1, none⟩ = false ∧ w.frozen? ⟨g, 2, none⟩ = false := by
  simp [World.cell?, World.frozen?, e]
theorem F3.step {W2 wi w1 : World} {xb : Nat} {many cents : Int} {ks : List ByteArray} {u v : Value} {s : ByteArray} (h1 : wi.heap[xb]? = some (.cells #[u, .int .i64 many, .int .i64 cents] 54 (0, 0)))
    (h2 : Orow wi (xb + 1) 9 1 fS u ks) (h3 : Below xb W2 wi) (h4 : xb < wi.heap.size) (o : Orow w1 (xb + 1) 9 1 fS v (ks ++ [s])) (b : Below (xb + 1) wi w1) :
    F3 W2 xb many cents (ks ++ [s]) (w1.setCell ⟨xb, 0, none⟩ v) := by
  refine ⟨v, ?_, ?_, (h3.trans (b.mono (by omega))).setCell (Nat.le_refl _) v, ?_⟩
  · have := (b.block xb (by omega)).trans h1
    simp [World.setCell, Array.getElem?_modify, this]
  · refine o.kept (row := some xb) ⟨rfl, rfl, rfl, by simp [World.setCell], fun k hk hne => Below.heap_setCell w1 _ v k (fun e => hne (by rw [e]))⟩ ?_
    cases e : v.ownBlock with
    | none => exact Or.inl rfl
    | some q => right; intro c; injection c with c; have := (o.lt e).1; omega
  · have := b.size
    simp [World.setCell]; omega

theorem kk_size {ks : List Nat} {keys : List ByteArray} (h : ∀ s ∈ keys, s.size ≤ 1000000) : ∀ s ∈ kk ks keys, s.size ≤ 1000000 := by
  intro s hs
  obtain ⟨k, _, rfl⟩ := List.mem_map.1 hs
  rw [List.getD_eq_getElem?_getD]
  cases e : keys[k]? with
  | none => simp
  | some y => exact h y (List.mem_of_getElem? e)
/-- The keys of a row are laid for good. -/
theorem F3.lay {H' : Frz} {wr wo : World} {u : Value} {ks : List ByteArray} {X : Nat} (hX : X = wr.heap.size + 1 + 1) (h : H'.In wr) (ho : H'.In wo) (x2 : Orow wo X 9 1 fS u ks) (hs : ∀ s ∈ ks, s.size ≤ 1000000) (hl : ks.length ≤ 1000000) :
    ∃ H'' : Frz, H'.Le H'' ∧ H''.In wo ∧ Ss H'' u ks ∧ ∀ b, b < wr.heap.size → H'' b = H' b := by
  obtain ⟨A, cap, H'', hv, hle, h1, h2, h3, h4, h5⟩ := x2.freeze H'
  exact ⟨H'', h2 (fun g hg => h.none_ (by have := (x2.lt hg).1; omega)), h1 ho, ⟨A, cap, hv, hle, h3, hs, hl⟩, fun b hb => h4 b (by omega)⟩
theorem F2.step {H H' H'' : Frz} {w wr wo w' : World} {B i : Nat} {ks : List Nat} {ds xs : List CellD} {d : CellD} {u v v' : Value} (hts : ds.take (i + 1) = ds.take i ++ [d])
    (f1 : H.Le H') (f3 : CellsR H' xs) (f4 : xs.map CellD.data = (ds.take i).map (proj ks)) (f5 : Orow wr B 54 3 fC v xs) (f6 : ∀ g, v.ownBlock = some g → H' g = none) (f7 : Below w.heap.size w wr) (f8 : B ≤ wr.heap.size)
    (hbo : Below wr.heap.size wr wo) (l1 : H'.Le H'') (l2 : H''.In wo) (l3 : Ss H'' u (kk ks d.keys)) (l4 : ∀ b, b < wr.heap.size → H'' b = H' b)
    (o : Orow w' B 54 3 fC v' (xs ++ [⟨u, kk ks d.keys, d.many, d.cents⟩])) (g : wo.grownBy w' v.ownBlock) (hat : v'.ownBlock = v.ownBlock ∨ ∃ g, v'.ownBlock = some g ∧ wo.heap.size < g) (hW : w.heap.size ≤ B) :
    F2 H w B ks ds (i + 1) v' w' := by
  have hown : ∀ q, v.ownBlock = some q → H'' q = none := fun q hq => by rw [l4 q (f5.lt hq).2]; exact f6 q hq
  refine ⟨H'', xs ++ [⟨u, kk ks d.keys, d.many, d.cents⟩], f1.trans l1, l2.grown' g hown, ?_, ?_, o, ?_, ?_, ?_⟩
  · intro y hy
    rcases List.mem_append.1 hy with hy | hy
    · exact (f3 y hy).le l1
    · simp at hy; rw [hy]; exact l3
  · rw [List.map_append, f4, hts, List.map_append]; rfl
  · intro q hq
    rcases hat with hat | ⟨g', hat, hg'⟩
    · exact hown q (by rw [← hat]; exact hq)
    · rw [hat] at hq; injection hq with hq; exact l2.none_ (by omega)
  · exact (f7.trans (hbo.mono f7.size)).grown g (Nat.le_trans (Nat.le_trans hW f8) hbo.size) (fun k hk => Nat.le_trans hW (f5.lt hk).1)
  · exact Nat.le_trans (Nat.le_trans f8 hbo.size) g.size

/-- The rows that are added up: so far. -/
def F4 (H2 : Frz) (w : World) (B2 : Nat) (cs : List CellD) (i : Nat) (v : Value) (zs : List CellD) (wr : World) : Prop :=
  Orow wr B2 54 3 fC v zs ∧ zs.map CellD.data = kmerge ((cs.take i).map CellD.data) ∧ CellsR H2 zs ∧ H2.In wr ∧ Below w.heap.size w wr ∧ B2 ≤ wr.heap.size ∧ zs.length ≤ i ∧
    ∀ d ∈ zs, 0 ≤ d.many ∧ d.many ≤ i * 1000000 ∧ -(i * 1000000000000) ≤ d.cents ∧ d.cents ≤ i * 1000000000000
theorem F4.app {H2 : Frz} {w wr W' : World} {B2 i : Nat} {cs zs : List CellD} {c : CellD} {v v' : Value} {o : Obj} (h : F4 H2 w B2 cs i v zs wr) (hts : cs.take (i + 1) = cs.take i ++ [c]) (hc : Ss H2 c.kv c.keys) (hm : 0 ≤ c.many ∧ c.many ≤ 1000000 ∧ -1000000000000 ≤ c.cents ∧ c.cents ≤ 1000000000000)
    (hk : mStep (zs.map CellD.data) c.data = zs.map CellD.data ++ [c.data]) (hHB : ∀ g, B2 ≤ g → H2 g = none) (hwB : w.heap.size ≤ B2) (W1 : World) (hb1 : Below wr.heap.size wr W1)
    (o' : Orow W' B2 54 3 fC v' (zs ++ [c])) (g : W1.grownBy W' v.ownBlock) : F4 H2 w B2 cs (i + 1) v' (zs ++ [c]) W' := by
  obtain ⟨h1, h2, h3, h4, h5, h6, h7, h8⟩ := h
  have hb2 : Below w.heap.size w W1 := h5.trans (hb1.mono h5.size)
  refine ⟨o', ?_, ?_, (h4.below hb1).grown' g (fun q hq => hHB q (h1.lt hq).1), hb2.grown g hb2.size (fun q hq => Nat.le_trans hwB (h1.lt hq).1), Nat.le_trans (Nat.le_trans h6 hb1.size) g.size, by simp; omega, ?_⟩
  · rw [hts]
    simp only [List.map_append, List.map_cons, List.map_nil]
    rw [kmerge_snoc, ← h2, hk]
  · intro d hd
    rcases List.mem_append.1 hd with hd | hd
    · exact h3 d hd
    · simp at hd; rw [hd]; exact hc
  · intro d hd
    rcases List.mem_append.1 hd with hd | hd
    · have := h8 d hd; omega
    · simp at hd; rw [hd]; omega
theorem mStep_first {zs : List CellD} {c : CellD} (h : zs = []) : mStep (zs.map CellD.data) c.data = zs.map CellD.data ++ [c.data] := by subst h; rfl
theorem mStep_new {zs ys : List CellD} {l c : CellD} (h : zs = ys ++ [l]) (hk : l.keys ≠ c.keys) : mStep (zs.map CellD.data) c.data = zs.map CellD.data ++ [c.data] := by
  subst h
  rw [List.map_append, List.map_singleton, mStep_other (by exact hk)]
theorem F4.add {H2 : Frz} {w wr : World} {B2 i : Nat} {cs ys : List CellD} {l c : CellD} {g cap : Nat} {rest : List Value} (h : F4 H2 w B2 cs i (.slice (some ⟨g, 0, none⟩) (ys.length + 1) cap) (ys ++ [l]) wr) (hts : cs.take (i + 1) = cs.take i ++ [c]) (hm : 0 ≤ c.many ∧ c.many ≤ 1000000 ∧ -1000000000000 ≤ c.cents ∧ c.cents ≤ 1000000000000)
    (hk : l.keys = c.keys) (hHB : ∀ g, B2 ≤ g → H2 g = none) (hwB : w.heap.size ≤ B2) {T k : Nat} {cells : Array Value}
    (hblk : KBlk wr g 54 3 fC (ys ++ [l]) rest) (hBg : B2 ≤ g) (hcm : cap ≤ maxLen) (hle : ys.length + 1 ≤ cap) (hr : rest.length = cap * 3 - (ys.length + 1) * 3)
    (W1 : World) (hb1 : Below wr.heap.size wr W1) :
    F4 H2 w B2 cs (i + 1) (.slice (some ⟨g, 0, none⟩) (ys.length + 1) cap) (ys ++ [⟨l.kv, l.keys, l.many + c.many, l.cents + c.cents⟩]) ((W1.setCell ⟨g, ys.length * 3 + 1, none⟩ (.int .i64 (l.many + c.many))).setCell ⟨g, ys.length * 3 + 2, none⟩ (.int .i64 (l.cents + c.cents))) := by
  obtain ⟨h1, h2, h3, h4, h5, h6, h7, h8⟩ := h
  have hb2 : Below w.heap.size w W1 := h5.trans (hb1.mono h5.size)
  have u1 := (hblk.keep hb1).upd ys.length 1 (by simp) (by omega) (d' := ⟨l.kv, l.keys, l.many + c.many, l.cents⟩) (x := .int .i64 (l.many + c.many)) rfl (fun m hm hne => by
    rw [List.getElem_append_right (by simp)]
    have : m = 0 ∨ m = 2 := by omega
    simp only [Nat.sub_self, List.getElem_cons_zero]
    rcases this with rfl | rfl <;> rfl)
  have u2 := u1.upd ys.length 2 (by simp) (by omega) (d' := ⟨l.kv, l.keys, l.many + c.many, l.cents + c.cents⟩) (x := .int .i64 (l.cents + c.cents)) rfl (fun m hm hne => by
    have : m = 0 ∨ m = 1 := by omega
    rw [List.getElem_set_self]
    rcases this with rfl | rfl <;> rfl)
  have es : ((ys ++ [l]).set ys.length ⟨l.kv, l.keys, l.many + c.many, l.cents⟩).set ys.length ⟨l.kv, l.keys, l.many + c.many, l.cents + c.cents⟩ = ys ++ [⟨l.kv, l.keys, l.many + c.many, l.cents + c.cents⟩] := by simp
  rw [es] at u2
  have hnone : H2 g = none := hHB g hBg
  refine ⟨?_, ?_, ?_, ((h4.below hb1).setCell (p := ⟨g, ys.length * 3 + 1, none⟩) hnone _).setCell (p := ⟨g, ys.length * 3 + 2, none⟩) hnone _, (hb2.setCell (p := ⟨g, ys.length * 3 + 1, none⟩) (Nat.le_trans hwB hBg) _).setCell (p := ⟨g, ys.length * 3 + 2, none⟩) (Nat.le_trans hwB hBg) _, ?_, by simp at h7 ⊢; omega, ?_⟩
  · have := Orow.of_blk (B := B2) u2 hBg hcm (by simp; omega) (by simp; omega)
    simpa using this
  · rw [hts]
    simp only [List.map_append, List.map_cons, List.map_nil] at h2 ⊢
    rw [kmerge_snoc, ← h2, mStep_same (by exact hk)]
    rfl
  · intro d hd
    rcases List.mem_append.1 hd with hd | hd
    · exact h3 d (by simp [hd])
    · simp at hd; rw [hd]; exact h3 l (by simp)
  · have := hb1.size; simp [World.setCell]; omega
  · intro d hd
    rcases List.mem_append.1 hd with hd | hd
    · have := h8 d (by simp [hd]); omega
    · have := h8 l (by simp)
      simp at hd; rw [hd]; simp only; omega

theorem F4.drew2 {H2 : Frz} {w wr : World} {B2 i : Nat} {cs zs : List CellD} {v : Value} (h : F4 H2 w B2 cs i v zs wr) : F4 H2 w B2 cs i v zs wr.drew.drew := by
  obtain ⟨h1, h2, h3, h4, h5, h6, h7, h8⟩ := h
  exact ⟨h1, h2, h3, h4, h5.drew.drew, h6, h7, h8⟩
theorem sortStable_CellA {H' : Frz} {wr : World} {B : Nat} {v : Value} {xs : List CellD} (f2 : H'.In wr) (f3 : CellsR H' xs) (f5 : Orow wr B 54 3 fC v xs) (f6 : ∀ g, v.ownBlock = some g → H' g = none) (hl : xs.length < 20) :
    Calls Try.prog 60 #[v, .func (.func 61) #[] #[]] wr fun e w' =>
      e = .returned (.tuple #[]) ∧ Orow w' B 54 3 fC v (isort (fun a b => decide (cmpL a.keys b.keys < 0)) xs) ∧ wr.grownBy w' v.ownBlock ∧ H'.In w' :=
  sortStable_Cell H' fC 61 [] (fun a b => cmpL a.keys b.keys) xs (fC_one' f3) (fun W a b hW ha hb => foldCmp_any H' a b W hW (f3 a ha) (f3 b hb)) (fun _ _ _ => by kernel_rfl) v B wr hl f2 f6 f5
def FoldPost (H : Frz) (ks : List Nat) (ds : List CellD) (w : World) (e : Ending) (w' : World) : Prop :=
  (∃ n : Int, n ≠ 0 ∧ e = .returned (.tuple #[.slice none 0 0, .int .i64 n]) ∧ Below w.heap.size w w' ∧ (¬ CellsOK ds ∨ ks ≠ [] ∨ ¬ ∀ y ∈ kfold (ds.map (proj ks)), fullI y.2.1 y.2.2 = true)) ∨
  ∃ (v : Value) (H' : Frz) (xs : List CellD), e = .returned (.tuple #[v, .int .i64 0]) ∧ CellsOK ds ∧ H.Le H' ∧ H'.In w' ∧ CellsR H' xs ∧ xs.map CellD.data = kfold (ds.map (proj ks)) ∧ Orow w' w.heap.size 54 3 fC v xs ∧ (∀ d ∈ xs, fullB d = true) ∧ (∀ k ∈ ks, ∀ d ∈ ds, k < d.keys.length) ∧ Below w.heap.size w w' ∧ (∀ g, v.ownBlock = some g → H' g = none)

set_option maxHeartbeats 4000000 in
set_option maxRecDepth 100000 in
theorem fold_any (H : Frz) (A Ak : Option Addr) (cap capk : Nat) (ds : List CellD) (ks : List Nat) (w : World) (hH : H.In w) (hR : Rw H A 3 fC ds) (hS : CellsR H ds) (hl : ds.length < 20) (hK : Rw H Ak 1 fI ks) (hks : ks.length ≤ 1) (hk0 : ∀ k ∈ ks, k ≤ 6) (hne : ds ≠ []) :
    Calls Try.prog 24 #[.slice A ds.length cap, .slice Ak ks.length capk] w (FoldPost H ks ds w) := by
  obtain ⟨i0, hi0, hz0, hz1, hz2⟩ := info_parts infoCell
  obtain ⟨is, his, hy0, hy1, hy2⟩ := info_parts infoStr
  have HR := Lib.hid hR
  have HH := Lib.hid hH
  have HS := Lib.hid hS
  have HK := Lib.hid hK
  have HK0 := Lib.hid hk0
  have hpos : 0 < ds.length := List.length_pos_iff.2 hne
  clear hR hH hS hK hk0 hne
  go_enter Try.func24, Try.ntmps24
  go_wp2_with fail
  refine (checkCells_any H A cap ds w HH.out HR.out HS.out (by omega)).mono ?_
  rintro e W1 ⟨n, rfl, hn, hb1⟩
  have HB1 := Lib.hid hb1
  have HN := Lib.hid hn
  clear hb1 hn
  by_cases hn0 : n = 0
  · subst hn0
    have hOK := Lib.hid (HN.out.1 rfl)
    clear HN
    have hin1 := Lib.hid (HH.out.below HB1.out)
    obtain ⟨b, off, rfl, hbl, hc⟩ := HR.out.at_ hin1.out hpos (by omega)
    have k0 : W1.cell? ⟨b, off, none⟩ = some (ds[0].kv) := by simpa [fC] using hc 0 (by omega)
    obtain ⟨A0, cap0, hkv0, hle0, hR0, hsz0, hl0⟩ := HS.out _ (List.getElem_mem hpos)
    rw [hkv0] at k0
    have hdim : Hid (∀ d ∈ ds, d.keys.length = ds[0].keys.length) := fun d hd => by
      obtain ⟨i, hi, rfl⟩ := List.getElem_of_mem hd
      exact (hOK.out.2 i hi).1
    have hd6 : ds[0].keys.length ≤ 6 := (hOK.out.2 0 hpos).2.1
    clear hc hR0 hsz0 hkv0
    generalize ds[0].keys.length = dm at k0 hdim hd6 hle0 hl0
    have hp' : (0 : Int) < ds.length := by omega
    go_wp2_with fail
    go_loop [35] (fun t => ∃ i : Nat, i ≤ ks.length ∧ t = .int .i64 i ∧ Hid (∀ k ∈ ks.take i, k < dm)) (fun t => ks.length - (intOf t).toNat)
    case atStart => exact ⟨0, by omega, rfl, fun k hk => by simp at hk⟩
    case round =>
      obtain ⟨i, hi, rfl, hdk⟩ := hrel
      by_cases hlt : i < ks.length
      · obtain ⟨bk, offk, rfl, -, hck⟩ := HK.out.at_ hin1.out hlt (by omega)
        have ck : W1.cell? ⟨bk, offk + i, none⟩ = some (.int .i64 (ks[i] : Int)) := by simpa [fI] using hck 0 (by omega)
        have hki := HK0.out _ (List.getElem_mem hlt)
        have hts := Lib.hid (List.take_succ_eq_append_getElem hlt)
        have hne := Lib.hid (show ks ≠ [] by intro e; rw [e] at hlt; simp at hlt)
        generalize ks[i] = k at ck hki hts
        clear hck
        have e8 : decide ((0 : Int) < (i : Int)) = false := by simp; omega
        by_cases hkd : k < dm
        · go_wp2_with fail
          refine (within_yes _ _ _ _ (by omega) (by omega)).mono ?_
          rintro e w' ⟨rfl, rfl⟩
          go_wp2_with fail
          go_round
          case rel => exact ⟨i + 1, by omega, by go_num, by show ∀ k ∈ _, _; rw [hts.out]; intro y hy; rcases List.mem_append.1 hy with hy | hy; exact hdk.out y hy; simp at hy; rw [hy]; exact hkd⟩
          case measure => simp [intOf]; omega
        · have hw2 : (decide ((0 : Int) ≤ (k : Int)) && decide ((k : Int) ≤ (dm : Int) - 1)) = false := by simp; omega
          have HW2 := Lib.hid hw2
          clear hw2
          go_wp2_with fail
          refine (within_any _ _ _ _).mono ?_
          rintro e w' ⟨rfl, rfl⟩
          rw [HW2.out]
          go_wp2_with fail
          go_ret2
          exact Or.inl ⟨1, by omega, rfl, HB1.out, Or.inr (Or.inl hne.out)⟩
      · have hdk2 : Hid (∀ k ∈ ks, k < dm) := fun k hk => hdk.out k (by rw [List.take_of_length_le (by omega)]; exact hk)
        clear hdk
        have J0 : Hid (F2 H w W1.heap.size ks ds 0 (.slice none 0 0) W1) := ⟨H, [], Frz.Le.refl _, hin1.out, (by intro d hd; cases hd), by simp, Orow.nil _ _ _ _ _, (by intro g hg; cases hg), HB1.out, Nat.le_refl _⟩
        go_wp2_with fail
        go_loopw [10, 61] (fun v t wr => ∃ i : Nat, i ≤ ds.length ∧ t = .int .i64 i ∧ Hid (F2 H w W1.heap.size ks ds i v wr)) (fun _ t _ => ds.length - (intOf t).toNat)
        case atStart => exact ⟨0, by omega, rfl, J0⟩
        case round =>
          obtain ⟨i, hi, rfl, J⟩ := hrel
          clear J0
          by_cases hlt : i < ds.length
          · obtain ⟨H', xs, f1, f2, f3, f4, f5, f6, f7, f8⟩ := J.out
            obtain ⟨b', off', hbe, hbl', hc⟩ := HR.out.at_ (f2.le f1) hlt (by omega)
            obtain ⟨rfl, rfl⟩ : b = b' ∧ off = off' := by injection hbe with e; injection e with e1 e2; exact ⟨e1, e2⟩
            have c0 : wr.cell? ⟨b, off + i * 3, none⟩ = some (ds[i].kv) := hc 0 (by omega)
            have c1 : wr.cell? ⟨b, off + i * 3 + 1, none⟩ = some (.int .i64 ds[i].many) := hc 1 (by omega)
            have c2 : wr.cell? ⟨b, off + i * 3 + 2, none⟩ = some (.int .i64 ds[i].cents) := hc 2 (by omega)
            have hsi := HS.out _ (List.getElem_mem hlt)
            have hdi := hdim.out _ (List.getElem_mem hlt)
            have hts := Lib.hid (List.take_succ_eq_append_getElem hlt)
            generalize ds[i] = d at c0 c1 c2 hsi hdi hts
            have HSI := Lib.hid hsi
            obtain ⟨Ai, capi, hkv, hlei, hRi, hszi, hli⟩ := hsi
            rw [hkv] at c0
            have HRI := Lib.hid hRi
            have HSZ := Lib.hid hszi
            have HDI := Lib.hid hdi
            have hdl : d.keys.length ≤ 6 := by omega
            clear hc hbe hRi hszi hkv hdi f1 f2 f3 f4 f5 f6 f7 f8
            go_wp2_with fail
            clear c0 c1 c2 k0
            obtain ⟨H', xs, f1, f2, f3, f4, f5, f6, f7, f8⟩ := J.out
            have hin2 := (f2.alloc (.cells #[.slice Ai d.keys.length capi, .int .i64 d.many, .int .i64 d.cents] 54)).alloc (.cells #[.slice none 0 0, .int .i64 d.many, .int .i64 d.cents] 54)
            have hcb : (((wr.alloc (.cells #[.slice Ai d.keys.length capi, .int .i64 d.many, .int .i64 d.cents] 54)).alloc (.cells #[.slice none 0 0, .int .i64 d.many, .int .i64 d.cents] 54)).heap[wr.heap.size]? = some (.cells #[.slice Ai d.keys.length capi, .int .i64 d.many, .int .i64 d.cents] 54 (0, 0))) := by
              rw [heap_lt (by simp), heap_at rfl]
            have hxb : (((wr.alloc (.cells #[.slice Ai d.keys.length capi, .int .i64 d.many, .int .i64 d.cents] 54)).alloc (.cells #[.slice none 0 0, .int .i64 d.many, .int .i64 d.cents] 54)).heap[wr.heap.size + 1]? = some (.cells #[.slice none 0 0, .int .i64 d.many, .int .i64 d.cents] 54 (0, 0))) := heap_at (by simp)
            have hbw2 := ((Below.refl wr.heap.size wr).alloc (Nat.le_refl _) (.cells #[.slice Ai d.keys.length capi, .int .i64 d.many, .int .i64 d.cents] 54)).alloc (by simp) (.cells #[.slice none 0 0, .int .i64 d.many, .int .i64 d.cents] 54)
            have hsz2 : ((wr.alloc (.cells #[.slice Ai d.keys.length capi, .int .i64 d.many, .int .i64 d.cents] 54)).alloc (.cells #[.slice none 0 0, .int .i64 d.many, .int .i64 d.cents] 54)).heap.size = wr.heap.size + 2 := by simp
            generalize World.alloc (World.alloc wr _) _ = W2 at hin2 hcb hxb hbw2 hsz2
            have K0 : Hid (F3 W2 (wr.heap.size + 1) d.many d.cents (kk (ks.take 0) d.keys) W2) := ⟨_, hxb, Orow.nil _ _ _ _ _, Below.refl _ _, by omega⟩
            have HIN2 := Lib.hid hin2
            have HCB := Lib.hid hcb
            have HBW2 := Lib.hid hbw2
            have HSZ2 := Lib.hid hsz2
            have HF2 := Lib.hid f2
            have HF1 := Lib.hid f1
            have HREST := Lib.hid (show CellsR H' xs ∧ xs.map CellD.data = (ds.take i).map (proj ks) ∧ Orow wr W1.heap.size 54 3 fC u10 xs ∧ (∀ g, u10.ownBlock = some g → H' g = none) ∧ Below w.heap.size w wr ∧ W1.heap.size ≤ wr.heap.size from ⟨f3, f4, f5, f6, f7, f8⟩)
            clear hin2 hcb hxb hbw2 hsz2 f1 f2 f3 f4 f5 f6 f7 f8
            go_loopw [72] (fun t wi => ∃ j : Nat, j ≤ ks.length ∧ t = .int .i64 j ∧ Hid (F3 W2 (wr.heap.size + 1) d.many d.cents (kk (ks.take j) d.keys) wi)) (fun t _ => ks.length - (intOf t).toNat)
            case atStart => exact ⟨0, by omega, rfl, K0⟩
            case round =>
              obtain ⟨wo, rfl⟩ : ∃ wo : World, wo = wr := ⟨_, rfl⟩
              obtain ⟨j, hj, rfl, Jk⟩ := hrel
              clear K0
              obtain ⟨u, x1, x2, x3, x4⟩ := Jk.out
              obtain ⟨y0, y1, y2, y3, y4, y5⟩ := box_cells x1
              obtain ⟨q0, q1, q2, -, -, -⟩ := box_cells ((x3.block wr.heap.size (by omega)).trans HCB.out)
              have hinwo : Hid (H'.In wo) := fun b o e => (x3.block b (by have := HF2.out.lt e; omega)).trans (HIN2.out b o e)
              by_cases hjl : j < ks.length
              · obtain ⟨bk, offk, rfl, hbk, hck⟩ := HK.out.at_ (hinwo.out.le HF1.out) hjl (by omega)
                have ck : wo.cell? ⟨bk, offk + j, none⟩ = some (.int .i64 (ks[j] : Int)) := by simpa [fI] using hck 0 (by omega)
                have hkd := hdk2.out _ (List.getElem_mem hjl)
                have hks := Lib.hid (kk_snoc hjl d.keys)
                generalize ks[j] = k at ck hkd hks
                have hkl : k < d.keys.length := by rw [HDI.out]; exact hkd
                obtain ⟨bi, offi, rfl, hbi, ci⟩ := Ss.at_ HRI.out (hinwo.out.le HF1.out) hkl
                have hgd : Hid (d.keys.getD k ByteArray.empty = d.keys[k]) := by show _ = _; rw [List.getD_eq_getElem?_getD, List.getElem?_eq_getElem hkl]; rfl
                generalize d.keys[k] = sk at ci hgd
                have hkl2 : (k : Int) < d.keys.length := by omega
                have X1 := Lib.hid x1
                have X2 := Lib.hid x2
                have X3 := Lib.hid x3
                have hlk : (kk (ks.take j) d.keys).length ≤ 4294967296 := by simp [kk]; omega
                have hsb : wr.heap.size + 1 + 1 ≤ wo.heap.size := by omega
                clear x1 x2 x3 hck
                have ag : u.ownBlock ≠ some (wr.heap.size + 1) := fun e => by have := (X2.out.lt e).1; omega
                have ak : u.ownBlock ≠ some wr.heap.size := fun e => by have := (X2.out.lt e).1; omega
                have hbi2 : bi < wr.heap.size := by
                  obtain ⟨b', off', e', h', _⟩ := Ss.at_ HRI.out (HF2.out.le HF1.out) hkl
                  injection e' with e'; injection e' with e1; omega
                have av : u.ownBlock ≠ some bi := fun e => by have := (X2.out.lt e).1; omega
                have hk0 : (0 : Int) ≤ (k : Int) := by omega
                have lw1 : wr.heap.size < wo.heap.size := by omega
                have hcz : (wo.alloc (.cells #[.string sk] 9)).drew.cell? ⟨wr.heap.size + 1, 0, none⟩ = some u := (World.cell?_of_block (w := wo) (w' := (wo.alloc (.cells #[.string sk] 9)).drew) (a := ⟨wr.heap.size + 1, 0, none⟩) (heap_lt (w := wo) (by show wr.heap.size + 1 < _; omega))).trans y0
                have hfz : (wo.alloc (.cells #[.string sk] 9)).drew.frozen? ⟨wr.heap.size + 1, 0, none⟩ = false := (World.frozen?_of_block (w := wo) (w' := (wo.alloc (.cells #[.string sk] 9)).drew) (a := ⟨wr.heap.size + 1, 0, none⟩) (heap_lt (w := wo) (by show wr.heap.size + 1 < _; omega))).trans y3
                go_wp2_with fail
                go_region_law
                  ((refine step_append_lies _ (by rfl) _ _ _ (by rfl) (wr.heap.size + 1 + 1) 9 is _ 1 16 Try.underlying42 his hy0 hy1 hy2 rfl (by omega) u _ _ (by rfl) ((X2.out.own.alloc _).drew)
                      ⟨wo.heap.size, 0, none⟩ 1 1 [.string sk] (by rfl) (by rfl) (World.news_of_block (cs := #[.string sk]) (t := 9) (fr := (0, 0)) (heap_alloc_new wo _)) (by simp [Value.oneCell'])
                      (by omega) (by simp only [maxLen]; omega) (by omega) (by simp; omega) (wo.heap.size + 1) (by simp) ?_; intro gg cap w1 hown1 hgrow hat hlt; have s1 : w1.cell? ⟨wr.heap.size + 1, 0, none⟩ = some u := (hgrow.cell_far _ (by simp; omega) (Ne.symm ag)).trans hcz; have s2 : w1.frozen? ⟨wr.heap.size + 1, 0, none⟩ = false := (hgrow.frozen_far _ (by simp; omega) (Ne.symm ag)).trans hfz; have HG := Lib.hid hgrow; have HO := Lib.hid hown1; clear hgrow hown1 hat))
                all_goals
                  have JN : Hid (F3 W2 (wr.heap.size + 1) d.many d.cents (kk (ks.take (j + 1)) d.keys) (w1.setCell ⟨wr.heap.size + 1, 0, none⟩ (.slice (some ⟨gg, 0, none⟩) ((kk (ks.take j) d.keys).length + 1) cap))) := by
                    rw [hks.out, hgd.out]
                    exact F3.step X1.out X2.out X3.out x4 (Orow.snoc (n := 0) HO.out rfl) (((Below.refl (wr.heap.size + 1 + 1) wo).alloc hsb _).drew.grown HG.out (by simp; omega) (fun k hk => (X2.out.lt hk).1))
                  clear HO HG s1 s2
                  go_wp2_with fail
                  go_roundw
                  case rel => exact ⟨j + 1, by omega, by go_num, JN⟩
                  case measure => simp [intOf]; omega
              · obtain rfl : j = ks.length := by omega
                rw [List.take_length] at x2
                obtain ⟨r3, r4, r5, r6, r7, r8⟩ := HREST.out
                have hbo : Below wr.heap.size wr wo := HBW2.out.trans (x3.mono (by omega))
                obtain ⟨H'', l1, l2, l3, l4⟩ := F3.lay rfl HF2.out hinwo.out x2 (kk_size HSZ.out) (by simp [kk]; omega)
                have hOr := Lib.hid (r5.below hbo)
                have hstep := Lib.hid (fun v' w' o g hat => F2.step (v' := v') (w' := w') hts.out HF1.out r3 r4 r5 r6 r7 r8 hbo l1 l2 l3 l4 o g hat HB1.out.size)
                have hxl : xs.length ≤ 20 := by have := congrArg List.length r4; simp at this; omega
                have hBo : W1.heap.size ≤ wo.heap.size := Nat.le_trans r8 hbo.size
                have hu1 : u.oneCell' = true := by obtain ⟨_, _, e, _⟩ := l3; rw [e]; rfl
                have hu2 : Hid ((List.range 3).map (fC ⟨u, kk ks d.keys, d.many, d.cents⟩) = [u, .int .i64 d.many, .int .i64 d.cents]) := rfl
                have hu3 : Hid (∀ y ∈ (#[u, .int .i64 d.many, .int .i64 d.cents] : Array Value).toList, y.oneCell' = true) := by intro y hy; simp at hy; rcases hy with rfl | rfl | rfl; exact hu1; rfl; rfl
                clear x1 x2 x3 r3 r4 r5 r6 r7 r8 hbo l1 l2 l3 l4 hu1 q0 q1 q2 y3 y4 y5
                go_wp2_with (at_builtin; refine wpList_app_at rfl _ _ 48 rfl W1.heap.size 54 i0 (.agg #[.slice none 0 0, .int .i64 0, .int .i64 0]) 3 40 Try.underlying48 hi0 hz0 hz1 hz2 rfl (by decide) fC u10 xs rfl hOr.out ⟨u, kk ks d.keys, d.many, d.cents⟩ #[u, .int .i64 d.many, .int .i64 d.cents] 54 rfl hu2.out hu3.out (by omega) (by omega) hBo ?_; intro v1 w2 o1 g1 b1 at1)
                have JN := Lib.hid (hstep.out v1 w2 o1 g1 at1)
                clear o1 g1 b1 at1 hstep hOr y0 y1 y2
                go_wp2_with fail
                go_roundw
                case rel => exact ⟨i + 1, by omega, by go_num, JN⟩
                case measure => simp [intOf]; omega
          · obtain rfl : i = ds.length := by omega
            obtain ⟨H', xs, f1, f2, f3, f4, f5, f6, f7, f8⟩ := J.out
            rw [List.take_length] at f4
            have hxl : xs.length < 20 := by have := congrArg List.length f4; simp at this; omega
            have HF1 := Lib.hid f1
            have HF3 := Lib.hid f3
            have HF4 := Lib.hid f4
            have HF7 := Lib.hid f7
            have HF6 := Lib.hid f6
            have HSRT := Lib.hid (sortStable_CellA (H' := H') f2 f3 f5 f6 hxl)
            clear f1 f2 f3 f4 f5 f6 f7 J k0
            go_wp2_with fail
            refine HSRT.out.mono ?_
            rintro e W3 ⟨rfl, s1, s2, s3⟩
            have hbW3 := HF7.out.grown s2 HF7.out.size (fun k hk => Nat.le_trans HB1.out.size (s1.lt hk).1)
            have hperm := isort_perm (fun a b : CellD => decide (cmpL a.keys b.keys < 0)) xs
            have hdat : (isort (fun a b : CellD => decide (cmpL a.keys b.keys < 0)) xs).map CellD.data = isort klt (ds.map (proj ks)) := by
              have := isort_map CellD.data (lt := fun a b : CellD => decide (cmpL a.keys b.keys < 0)) (lt' := klt) (fun a b => rfl) xs
              rw [HF4.out] at this
              exact this
            have hCR : CellsR H' (isort (fun a b : CellD => decide (cmpL a.keys b.keys < 0)) xs) := fun d hd => HF3.out d (hperm.mem_iff.1 hd)
            have hcl := isort_length (fun a b : CellD => decide (cmpL a.keys b.keys < 0)) xs
            generalize isort (fun a b : CellD => decide (cmpL a.keys b.keys < 0)) xs = cs at s1 hperm hdat hCR hcl
            obtain ⟨Ac, capc, H2, hv, hlec, h1, h2, h3, h4, h5⟩ := s1.freeze H'
            have hin2 := h1 s3
            have hle2 := h2 HF6.out
            subst hv
            have hfull : Hid (∀ c ∈ cs, 0 ≤ c.many ∧ c.many ≤ 1000000 ∧ -1000000000000 ≤ c.cents ∧ c.cents ≤ 1000000000000) := by
              intro c hc
              have hm : c.data ∈ ds.map (proj ks) := (isort_perm klt _).mem_iff.1 (by rw [← hdat]; exact List.mem_map.2 ⟨c, hc, rfl⟩)
              obtain ⟨d, hd, e⟩ := List.mem_map.1 hm
              obtain ⟨i, hi, rfl⟩ := List.getElem_of_mem hd
              have := fullB_yes (hOK.out.2 i hi).2.2.2.2
              have e1 : c.many = ds[i].many := congrArg (fun x : K3 => x.2.1) e.symm
              have e2 : c.cents = ds[i].cents := congrArg (fun x : K3 => x.2.2) e.symm
              omega
            have hHB : Hid (∀ g, W3.heap.size ≤ g → H2 g = none) := fun g hg => hin2.none_ hg
            have L0 : Hid (F4 H2 w W3.heap.size cs 0 (.slice none 0 0) [] W3) := ⟨Orow.nil _ _ _ _ _, rfl, (by intro d hd; cases hd), hin2, hbW3, Nat.le_refl _, Nat.le_refl _, (by intro d hd; cases hd)⟩
            have HRC := Lib.hid h3
            have HDAT := Lib.hid hdat
            have HCR := Lib.hid (fun d hd => (hCR d hd).le hle2)
            have HLE2 := Lib.hid hle2
            have hcl20 : cs.length < 20 := by omega
            have hW3 : w.heap.size ≤ W3.heap.size := hbW3.size
            clear hbW3 hperm hdat hCR hcl s1 s2 s3 h1 h2 h3 h4 h5 hin2 hle2 HSRT HF3 HF4 HF6 HF7
            go_wp2_with fail
            go_loopw [16, 96] (fun v t wr => ∃ (i : Nat) (zs : List CellD), i ≤ cs.length ∧ t = .int .i64 i ∧ Hid (F4 H2 w W3.heap.size cs i v zs wr)) (fun _ t _ => cs.length - (intOf t).toNat)
            case atStart => exact ⟨0, [], by omega, rfl, L0⟩
            case round =>
              obtain ⟨i, zs, hi, rfl, J⟩ := hrel
              clear L0
              by_cases hlt : i < cs.length
              · obtain ⟨bc, offc, rfl, hbc, hcc⟩ := HRC.out.at_ J.out.2.2.2.1 hlt (by omega)
                have c0 : wr.cell? ⟨bc, offc + i * 3, none⟩ = some (cs[i].kv) := hcc 0 (by omega)
                have c1 : wr.cell? ⟨bc, offc + i * 3 + 1, none⟩ = some (.int .i64 cs[i].many) := hcc 1 (by omega)
                have c2 : wr.cell? ⟨bc, offc + i * 3 + 2, none⟩ = some (.int .i64 cs[i].cents) := hcc 2 (by omega)
                have hsc := Lib.hid (HCR.out _ (List.getElem_mem hlt))
                have hfc := hfull.out _ (List.getElem_mem hlt)
                have hts := Lib.hid (List.take_succ_eq_append_getElem hlt)
                generalize cs[i] = c at c0 c1 c2 hsc hfc hts
                clear hcc
                obtain ⟨ckv, ckeys, cm, cc⟩ := c
                obtain ⟨Aq, capq, hkq, -⟩ := id hsc.out
                simp only at hkq c0 c1 c2 hfc
                subst hkq
                rcases nil_or_snoc zs with rfl | ⟨ys, l, rfl⟩
                · obtain ⟨Av, capv, hv, hlev⟩ := J.out.1.slice
                  simp only [List.length_nil] at hv
                  subst hv
                  go_wp2_with fail
                  go_quiet (fail)
                  have hbx : ((wr.alloc (.cells #[(.slice Aq ckeys.length capq), .int .i64 cm, .int .i64 cc] 54)).drewN nq).heap[wr.heap.size]? = some (.cells #[(.slice Aq ckeys.length capq), .int .i64 cm, .int .i64 cc] 54 (0, 0)) := heap_at (w := wr) rfl
                  have hb5 : Below wr.heap.size wr ((wr.alloc (.cells #[(.slice Aq ckeys.length capq), .int .i64 cm, .int .i64 cc] 54)).drewN nq) := below_drewN ((Below.refl _ wr).alloc (Nat.le_refl _) _) nq
                  generalize World.drewN _ nq = W5 at hbx hb5
                  obtain ⟨x0, x1, x2, -, -, -⟩ := box_cells hbx
                  have hOr := Lib.hid (J.out.1.below hb5)
                  have hstep := Lib.hid (fun v' W' o' g => F4.app (v' := v') (W' := W') (o := (.cells #[(.slice Aq ckeys.length capq), .int .i64 cm, .int .i64 cc] 54)) J.out hts.out hsc.out hfc (mStep_first rfl) hHB.out hW3 W5 hb5 o' g)
                  have hBo : W3.heap.size ≤ W5.heap.size := Nat.le_trans J.out.2.2.2.2.2.1 hb5.size
                  have hzl : ([] : List CellD).length ≤ 20 := by have := J.out.2.2.2.2.2.2.1; omega
                  have hu1 : (Value.slice Aq ckeys.length capq).oneCell' = true := rfl
                  have hu2 : Hid ((List.range 3).map (fC ⟨.slice Aq ckeys.length capq, ckeys, cm, cc⟩) = [(.slice Aq ckeys.length capq), .int .i64 cm, .int .i64 cc]) := rfl
                  have hu3 : Hid (∀ y ∈ (#[(.slice Aq ckeys.length capq), .int .i64 cm, .int .i64 cc] : Array Value).toList, y.oneCell' = true) := by intro y hy; simp at hy; rcases hy with rfl | rfl | rfl; exact hu1; rfl; rfl
                  clear hbx hb5 hu1 c0 c1 c2
                  go_wp2_with (at_builtin; refine wpList_app rfl _ _ 48 rfl W3.heap.size 54 i0 (.agg #[.slice none 0 0, .int .i64 0, .int .i64 0]) 3 40 Try.underlying48 hi0 hz0 hz1 hz2 rfl (by decide) fC _ ([] : List CellD) rfl hOr.out ⟨.slice Aq ckeys.length capq, ckeys, cm, cc⟩ #[(.slice Aq ckeys.length capq), .int .i64 cm, .int .i64 cc] 54 rfl hu2.out hu3.out (by omega) (by omega) hBo ?_; intro v1 w2 o1 g1 b1)
                  have JN := Lib.hid (hstep.out v1 w2 o1 g1)
                  clear o1 g1 b1 hstep hOr x0 x1 x2
                  go_wp2_with fail
                  go_roundw
                  case rel => exact ⟨i + 1, _, by omega, by go_num, JN⟩
                  case measure => simp [intOf]; omega
                · obtain ⟨g, capg, rest, hv, hleg, hBg, hglt, hmg, hblk, hrg⟩ := J.out.1.form (by simp)
                  rw [List.length_append, List.length_singleton] at hv hleg hrg
                  subst hv
                  have hget : (ys ++ [l])[ys.length]'(by simp) = l := by simp
                  have l0 := hblk.cell ys.length 0 (by simp) (by omega)
                  have l1 := hblk.cell ys.length 1 (by simp) (by omega)
                  have l2 := hblk.cell ys.length 2 (by simp) (by omega)
                  rw [hget] at l0 l1 l2
                  replace l0 : wr.cell? ⟨g, ys.length * 3, none⟩ = some l.kv := l0
                  replace l1 : wr.cell? ⟨g, ys.length * 3 + 1, none⟩ = some (.int .i64 l.many) := l1
                  replace l2 : wr.cell? ⟨g, ys.length * 3 + 2, none⟩ = some (.int .i64 l.cents) := l2
                  have hsl := Lib.hid (J.out.2.2.1 l (by simp))
                  have hlb := J.out.2.2.2.2.2.2.2 l (by simp)
                  have hyl : ys.length + 1 ≤ i := by have := J.out.2.2.2.2.2.2.1; simpa using this
                  have e1 : ((ys.length : Int) + 1 - 1) = ys.length := by omega
                  have e2 : (0 : Int) ≤ (ys.length : Int) := by omega
                  have e3 : (ys.length : Int) < (ys.length : Int) + 1 := by omega
                  have e4 : decide ((0 : Int) ≤ (ys.length : Int)) = true := by simp
                  have HIN := Lib.hid J.out.2.2.2.1
                  have hEq : Hid (∀ W, H2.In W → Calls Try.prog 63 #[l.kv, (.slice Aq ckeys.length capq)] W fun e w' => e = .returned (.bool (eqSs l.keys ckeys)) ∧ ∃ n, w' = W.drewN n) := fun W hW => equalSs_any H2 l.kv (.slice Aq ckeys.length capq) l.keys ckeys W hW hsl.out hsc.out
                  by_cases hk : l.keys = ckeys
                  · have HK2 := Lib.hid hk
                    have HEQ : Hid (∀ W, H2.In W → Calls Try.prog 63 #[l.kv, (.slice Aq ckeys.length capq)] W fun e w' => e = .returned (.bool true) ∧ ∃ n, w' = W.drewN n) := fun W hW => by have := hEq.out W hW; rw [eqSs_yes HK2.out] at this; exact this
                    clear hk hEq hget
                    go_wp2_with fail
                    go_quiet ((go_at_call 63; exact Calls.quiet_of (HEQ.out _ (HIN.out.alloc _))))
                    go_wp2_with fail
                    have hbx : ((wr.alloc (.cells #[(.slice Aq ckeys.length capq), .int .i64 cm, .int .i64 cc] 54)).drewN nq).heap[wr.heap.size]? = some (.cells #[(.slice Aq ckeys.length capq), .int .i64 cm, .int .i64 cc] 54 (0, 0)) := heap_at (w := wr) rfl
                    have hb5 : Below wr.heap.size wr ((wr.alloc (.cells #[(.slice Aq ckeys.length capq), .int .i64 cm, .int .i64 cc] 54)).drewN nq) := below_drewN ((Below.refl _ wr).alloc (Nat.le_refl _) _) nq
                    generalize World.drewN _ nq = W5 at hbx hb5
                    obtain ⟨x0, x1, x2, -, -, -⟩ := box_cells hbx
                    have m1 := (hb5.cell (p := ⟨g, ys.length * 3 + 1, none⟩) hglt).trans l1
                    have m2 := (hb5.cell (p := ⟨g, ys.length * 3 + 2, none⟩) hglt).trans l2
                    have n1 := (hblk.keep hb5).frozen (ys.length * 3 + 1)
                    have n2 := (hblk.keep hb5).frozen (ys.length * 3 + 2)
                    have hgn1 : ¬ g = wr.heap.size := by omega
                    have hgn2 : ¬ wr.heap.size = g := by omega
                    have JN := Lib.hid (F4.add (T := 0) (k := 0) (cells := #[]) J.out hts.out hfc HK2.out hHB.out hW3 hblk hBg hmg hleg hrg W5 hb5)
                    have w1 : IntKind.i64.wrap (l.many + cm) = l.many + cm := IntWalk.i64_in _ (by omega)
                    have w2 : IntKind.i64.wrap (l.cents + cc) = l.cents + cc := IntWalk.i64_in _ (by omega)
                    clear hbx hb5 l0 l1 l2 c0 c1 c2 hblk J HEQ HIN
                    go_region
                    go_wp2_with fail
                    go_region
                    go_wp2_with fail
                    go_roundw
                    case rel => exact ⟨i + 1, _, by omega, by go_num, JN.out.drew2⟩
                    case measure => simp [intOf]; omega
                  · have HK2 := Lib.hid hk
                    have HEQ : Hid (∀ W, H2.In W → Calls Try.prog 63 #[l.kv, (.slice Aq ckeys.length capq)] W fun e w' => e = .returned (.bool false) ∧ ∃ n, w' = W.drewN n) := fun W hW => by have := hEq.out W hW; rw [eqSs_no HK2.out] at this; exact this
                    clear hk hEq hget
                    go_wp2_with fail
                    go_quiet ((go_at_call 63; exact Calls.quiet_of (HEQ.out _ (HIN.out.alloc _))))
                    have hbx : ((wr.alloc (.cells #[(.slice Aq ckeys.length capq), .int .i64 cm, .int .i64 cc] 54)).drewN nq).heap[wr.heap.size]? = some (.cells #[(.slice Aq ckeys.length capq), .int .i64 cm, .int .i64 cc] 54 (0, 0)) := heap_at (w := wr) rfl
                    have hb5 : Below wr.heap.size wr ((wr.alloc (.cells #[(.slice Aq ckeys.length capq), .int .i64 cm, .int .i64 cc] 54)).drewN nq) := below_drewN ((Below.refl _ wr).alloc (Nat.le_refl _) _) nq
                    generalize World.drewN _ nq = W5 at hbx hb5
                    obtain ⟨x0, x1, x2, -, -, -⟩ := box_cells hbx
                    have hOr := Lib.hid (J.out.1.below hb5)
                    have hstep := Lib.hid (fun v' W' o' g => F4.app (v' := v') (W' := W') (o := (.cells #[(.slice Aq ckeys.length capq), .int .i64 cm, .int .i64 cc] 54)) J.out hts.out hsc.out hfc (mStep_new rfl HK2.out) hHB.out hW3 W5 hb5 o' g)
                    have hBo : W3.heap.size ≤ W5.heap.size := Nat.le_trans J.out.2.2.2.2.2.1 hb5.size
                    have hzl : (ys ++ [l]).length ≤ 20 := by have := J.out.2.2.2.2.2.2.1; omega
                    have hu1 : (Value.slice Aq ckeys.length capq).oneCell' = true := rfl
                    have hu2 : Hid ((List.range 3).map (fC ⟨.slice Aq ckeys.length capq, ckeys, cm, cc⟩) = [(.slice Aq ckeys.length capq), .int .i64 cm, .int .i64 cc]) := rfl
                    have hu3 : Hid (∀ y ∈ (#[(.slice Aq ckeys.length capq), .int .i64 cm, .int .i64 cc] : Array Value).toList, y.oneCell' = true) := by intro y hy; simp at hy; rcases hy with rfl | rfl | rfl; exact hu1; rfl; rfl
                    clear hbx hb5 hu1 c0 c1 c2 l0 l1 l2 hblk
                    go_wp2_with (at_builtin; refine wpList_app rfl _ _ 48 rfl W3.heap.size 54 i0 (.agg #[.slice none 0 0, .int .i64 0, .int .i64 0]) 3 40 Try.underlying48 hi0 hz0 hz1 hz2 rfl (by decide) fC _ (ys ++ [l]) rfl hOr.out ⟨.slice Aq ckeys.length capq, ckeys, cm, cc⟩ #[(.slice Aq ckeys.length capq), .int .i64 cm, .int .i64 cc] 54 rfl hu2.out hu3.out (by omega) (by omega) hBo ?_; intro v1 w2 o1 g1 b1)
                    have JN := Lib.hid (hstep.out v1 w2 o1 g1)
                    clear o1 g1 b1 hstep hOr x0 x1 x2
                    go_wp2_with fail
                    go_roundw
                    case rel => exact ⟨i + 1, _, by omega, by go_num, JN⟩
                    case measure => simp [intOf]; omega
              · obtain rfl : i = cs.length := by omega
                obtain ⟨o1, o2, o3, o4, o5, o6, o7, o8⟩ := J.out
                rw [List.take_length, HDAT.out] at o2
                obtain ⟨Ao, capo, H3, hv, hleo, p1, p2, p3, p4, p5⟩ := o1.freeze H2
                have hin3 := p1 o4
                subst hv
                have hn3 : Hid (∀ g, (Value.slice Ao zs.length capo).ownBlock = some g → H2 g = none) := fun g hg => hHB.out g (o1.lt hg).1
                have HR3 := Lib.hid p3
                have HIN3 := Lib.hid hin3
                have hzl20 : zs.length < 20 := by omega
                have HO := Lib.hid (show Orow wr W3.heap.size 54 3 fC (.slice Ao zs.length capo) zs ∧ zs.map CellD.data = kfold (ds.map (proj ks)) ∧ CellsR H2 zs ∧ H2.In wr ∧ Below w.heap.size w wr from ⟨o1, o2, o3, o4, o5⟩)
                clear o1 o2 o3 o4 o5 o6 o7 o8 p1 p2 p3 p4 p5 hin3 J
                go_wp2_with fail
                refine (containsFunc_Cell H3 fC 65 [] (fun d => !fullB d) zs (fun W d hd hW => foldFull_any d W) (fun _ _ => by kernel_rfl) Ao capo wr HIN3.out HR3.out (by omega)).mono ?_
                rintro e W6 ⟨rfl, hb6⟩
                have HB6 := Lib.hid hb6
                clear hb6
                generalize hq : anyF (fun d => !fullB d) zs = q
                have HQ := Lib.hid hq
                clear hq
                cases q with
                | true =>
                  go_wp2_with fail
                  go_ret2
                  refine Or.inl ⟨12, by omega, rfl, HO.out.2.2.2.2.trans (HB6.out.mono HO.out.2.2.2.2.size), Or.inr (Or.inr ?_)⟩
                  intro hall
                  obtain ⟨d, hd, hf⟩ := List.any_eq_true.1 HQ.out
                  have h1 := hall d.data (by rw [← HO.out.2.1]; exact List.mem_map.2 ⟨d, hd, rfl⟩)
                  have h2 : fullB d = true := h1
                  rw [h2] at hf
                  cases hf
                | false =>
                  go_wp2_with fail
                  go_ret2
                  obtain ⟨o1, o2, o3, o4, o5⟩ := HO.out
                  refine Or.inr ⟨_, H2, zs, rfl, hOK.out, HF1.out.trans HLE2.out, o4.below HB6.out, o3, o2, (o1.below HB6.out).mono hW3, ?_, ?_, o5.trans (HB6.out.mono o5.size), hn3.out⟩
                  · intro d hd
                    have := List.any_eq_false.1 HQ.out d hd
                    simpa using this
                  · intro k hk d hd
                    rw [hdim.out d hd]
                    exact hdk2.out k hk
  · have hn1 : (n != 0) = true := by simpa using hn0
    have hv := Lib.hid (fun h => hn0 (HN.out.2 h))
    have HN0 := Lib.hid hn0
    clear hn0
    go_wp2_with fail
    go_ret2
    exact Or.inl ⟨n, HN0.out, rfl, HB1.out, Or.inl hv.out⟩
end Go.Proofs.Ytadfoaopamlnpaa
