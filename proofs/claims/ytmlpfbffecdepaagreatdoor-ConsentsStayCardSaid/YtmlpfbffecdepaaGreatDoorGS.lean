/- Texts of this claim, put together: EqIds, Spo, StayP. -/
import Derived.Test.YtmlpfbffecdepaaGreatDoorGE
import Derived.Test.YtmlpfbffecdepaaGreatDoorGA
import Derived.Test.YtmlpfbffecdepaaGreatDoorGB
import Derived.Test.YtmlpfbffecdepaaGreatDoorGL
/- slices.Equal of two rows that hold the same ids. -/
namespace Go.Proofs.YtmlpfbffecdepaaGreatDoor
set_option linter.unusedVariables false
open Go.RowKit
set_option maxHeartbeats 2000000 in
set_option maxRecDepth 100000 in
theorem equal_Id (H : Frz) (A : Option Addr) (cap : Nat) (A2 : Option Addr) (cap2 : Nat) (ds : List IdD) (w : World) (hH : H.In w) (hR : Rw H A 2 fId ds) (hR2 : Rw H A2 2 fId ds) (hl : ds.length ≤ 1000000) :
    Calls Tryz.prog 15 #[.slice A ds.length cap, .slice A2 ds.length cap2] w fun e w' => e = .returned (.bool true) ∧ Below w.heap.size w w' := by
  have HR := Lib.hid hR
  have HR2 := Lib.hid hR2
  have HIN := Lib.hid hH
  have k0 : ((ds.length : Int) != (ds.length : Int)) = false := by simp
  clear hR hR2 hH
  go_enter Tryz.func15, Tryz.ntmps15
  go_wp2_with fail
  clear k0
  go_loopw [5, 13] (fun _ t wr => ∃ i : Nat, i ≤ ds.length ∧ t = .int .i64 i ∧ Hid (Below w.heap.size w wr)) (fun _ t _ => ds.length - (intOf t).toNat)
  case atStart => exact ⟨0, by omega, rfl, Below.refl _ _⟩
  case round =>
    obtain ⟨i, hi, rfl, hb⟩ := hrel
    by_cases hlt : i < ds.length
    · obtain ⟨b, off, rfl, hbl, hc⟩ := HR.out.at_ (HIN.out.below hb.out) hlt (by omega)
      obtain ⟨b2, off2, rfl, hbl2, hc2⟩ := HR2.out.at_ (HIN.out.below hb.out) hlt (by omega)
      have c0 : wr.cell? ⟨b, off + i * 2, none⟩ = some (.int .i64 ds[i].kind) := hc 0 (by omega)
      have c1 : wr.cell? ⟨b, off + i * 2 + 1, none⟩ = some (.string ds[i].text) := hc 1 (by omega)
      have hd := hc2
      clear hc
      have d0 : wr.cell? ⟨b2, off2 + i * 2, none⟩ = some (.int .i64 ds[i].kind) := hd 0 (by omega)
      have d1 : wr.cell? ⟨b2, off2 + i * 2 + 1, none⟩ = some (.string ds[i].text) := hd 1 (by omega)
      clear hc2 hd
      generalize ds[i] = y at *
      go_wp2_with fail
      go_quiet (fail)
      have HB1 := Lib.hid (fun n => below_drewN hb.out n)
      go_wp2_with fail
      go_roundw
      case rel => exact ⟨i + 1, by omega, by go_num, Lib.hid (HB1.out _)⟩
      case measure => simp [intOf]; omega
    · have hie : i = ds.length := by omega
      subst hie
      go_wp2_with fail
      go_ret
      exact ⟨rfl, hb.out⟩
end Go.Proofs.YtmlpfbffecdepaaGreatDoor

/- Rows of the call's own that are laid for good, or spoilt. -/
namespace Go.Proofs.YtmlpfbffecdepaaGreatDoor
set_option linter.unusedVariables false
open Go.RowKit
section
variable {D : Type} {w W W' : World} {bs K : Nat} {H : Frz} {T k n g : Nat} {f : D → Nat → Value} {v : Value} {ds : List D}
theorem Lw.keepRow (L : Lw w bs K H W) (L' : Lw w bs K H W') (hO : Orow W' W.heap.size T k f v ds) : ∃ A cap H', v = .slice A ds.length cap ∧ ds.length ≤ cap ∧ H.Le H' ∧ Lw w bs K H' W' ∧ Rw H' A k f ds ∧ ∀ g, g < W.heap.size → H' g = H g := by
  obtain ⟨A, cap, H', hv, hle, p1, p2, hR, p3, -⟩ := hO.freeze H
  exact ⟨A, cap, H', hv, hle, p2 (fun q hq => L.fin.none_ (hO.lt hq).1), ⟨L'.st, L'.bel, L'.le, p1 L'.fin, by rw [p3 _ L.lt]; exact L'.apart⟩, hR, fun g hg => p3 g hg⟩
/-- A block of n cells or more. -/
def Junk (W : World) (g T n : Nat) : Prop := ∃ cs : Array Value, n ≤ cs.size ∧ W.heap[g]? = some (.cells cs T (0, 0))
theorem Junk.cell (h : Junk W g T n) {i : Nat} (hi : i < n) : ∃ x, W.cell? ⟨g, i, none⟩ = some x := by
  obtain ⟨cs, h1, h2⟩ := h
  exact ⟨cs[i], cell_h h2 i (Array.getElem?_eq_getElem (by omega))⟩
theorem Junk.frozen (h : Junk W g T n) (i : Nat) : W.frozen? ⟨g, i, none⟩ = false := by
  obtain ⟨cs, h1, h2⟩ := h
  exact froz_h h2 i
theorem Junk.set (h : Junk W g T n) (i : Nat) (x : Value) : Junk (W.setCell ⟨g, i, none⟩ x) g T n := by
  obtain ⟨cs, h1, h2⟩ := h
  refine ⟨cs.setIfInBounds i x, by simpa using h1, ?_⟩
  simp [World.setCell, Array.getElem?_modify, h2]
/-- A law's world with a block that is spoilt. -/
structure Spo (w : World) (bs K : Nat) (H : Frz) (g T n : Nat) (W : World) : Prop where
  lw : Lw w bs K H W
  blk : Junk W g T n
  lt : bs < g
  no : H g = none
theorem Spo.set (h : Spo w bs K H g T n W) (i : Nat) (x : Value) : Spo w bs K H g T n (W.setCell ⟨g, i, none⟩ x) :=
  ⟨h.lw.setCell h.lt h.no x, h.blk.set i x, h.lt, h.no⟩
/-- The world of a loop over a row of the call's own that is spoilt: with no element there is no block. -/
structure Spl (w : World) (bs K : Nat) (H : Frz) (A : Option Addr) (T k n : Nat) (W : World) : Prop where
  lw : Lw w bs K H W
  at_ : 0 < n → ∃ g, A = some ⟨g, 0, none⟩ ∧ Spo w bs K H g T (n * k) W
theorem Lw.spl (L : Lw w bs K H W) (L' : Lw w bs K H W') (hO : Orow W' W.heap.size T k f v ds) : ∃ A cap, v = .slice A ds.length cap ∧ Spl w bs K H A T k ds.length W' ∧ (ds.length : Int) ≤ 9223372036854775807 := by
  obtain ⟨A, cap, H', hv, hle, p1, p2, hR, p3, -⟩ := hO.freeze H
  refine ⟨A, cap, hv, ⟨L', fun h0 => ?_⟩, ?_⟩
  · obtain ⟨g, cap', rest, hv2, -, hB, hlt, -, hb, -⟩ := hO.form (fun e => by subst e; simp at h0)
    rw [hv] at hv2
    injection hv2 with e1 e2 e3
    subst e1
    refine ⟨g, rfl, L', ⟨_, ?_, hb⟩, Nat.lt_of_lt_of_le L.lt hB, L.fin.none_ hB⟩
    simp [cellsOf_len]
  · by_cases h0 : ds = []
    · subst h0; simp
    · obtain ⟨g, cap', rest, hv2, hle2, hB, hlt, hm, hb, -⟩ := hO.form h0
      unfold maxLen at hm
      omega
theorem Spl.to {H' : Frz} {A : Option Addr} (h : Spl w bs K H A T k n W) (L : Lw w bs K H' W') (hb : Below W.heap.size W W') (he : ∀ g, g < W.heap.size → H' g = H g) : Spl w bs K H' A T k n W' := by
  refine ⟨L, fun h0 => ?_⟩
  obtain ⟨g, e, h1, ⟨cs, h2, h3⟩, h4, h5⟩ := h.at_ h0
  exact ⟨g, e, L, ⟨cs, h2, (hb.block g (lt_of_heap h3)).trans h3⟩, h4, by rw [he g (lt_of_heap h3)]; exact h5⟩
theorem Spl.fin (h : Spl w bs K H (some ⟨g, 0, none⟩) T k n W) (h2 : Spo w bs K H g T (n * k) W') : Spl w bs K H (some ⟨g, 0, none⟩) T k n W' :=
  ⟨h2.lw, fun _ => ⟨g, rfl, h2⟩⟩
end
end Go.Proofs.YtmlpfbffecdepaaGreatDoor

/- Merged lists of the same statements are equal: plain. -/
namespace Go.Proofs.YtmlpfbffecdepaaGreatDoor
set_option linter.unusedVariables false
open Go.RowKit
theorem strict_eq {D : Type} {lt : D → D → Prop} (hi : ∀ a, ¬ lt a a) (hs : ∀ a b, lt a b → ¬ lt b a) : ∀ {l l' : List D}, l.Pairwise lt → l'.Pairwise lt → (∀ x, x ∈ l ↔ x ∈ l') → l = l'
  | [], [], _, _, _ => rfl
  | [], b :: t', _, _, h => absurd ((h b).2 (by simp)) (by simp)
  | a :: t, [], _, _, h => absurd ((h a).1 (by simp)) (by simp)
  | a :: t, b :: t', h1, h2, h => by
    obtain ⟨h3, h4⟩ := List.pairwise_cons.1 h1
    obtain ⟨h5, h6⟩ := List.pairwise_cons.1 h2
    have hab : a = b := by
      rcases List.mem_cons.1 ((h a).1 (by simp)) with e | e
      · exact e
      · rcases List.mem_cons.1 ((h b).2 (by simp)) with e' | e'
        · exact e'.symm
        · exact absurd (h5 a e) (hs _ _ (h3 b e'))
    subst hab
    congr 1
    refine strict_eq hi hs h4 h6 (fun x => ⟨fun hx => ?_, fun hx => ?_⟩)
    · rcases List.mem_cons.1 ((h x).1 (List.mem_cons_of_mem _ hx)) with e | e
      · subst e; exact absurd (h3 x hx) (hi x)
      · exact e
    · rcases List.mem_cons.1 ((h x).2 (List.mem_cons_of_mem _ hx)) with e | e
      · subst e; exact absurd (h5 x hx) (hi x)
      · exact e
theorem comp_strict : ∀ (l : List StD) (p : StD), ((p :: l).Pairwise fun a b => ordCmp a b ≤ 0) → (∀ x ∈ compG eqO p l, ordCmp p x < 0) ∧ ((compG eqO p l).Pairwise fun a b => ordCmp a b < 0)
  | [], p, _ => ⟨(fun x hx => by cases hx), List.Pairwise.nil⟩
  | y :: l, p, h => by
    obtain ⟨h1, h2⟩ := List.pairwise_cons.1 h
    obtain ⟨i1, i2⟩ := comp_strict l y h2
    have hpy := h1 y (by simp)
    unfold compG
    by_cases c : eqO y p = true
    · rw [if_pos c]
      have h0 := eqO_iff.1 c
      refine ⟨fun x hx => ?_, i2⟩
      have h3 := i1 x hx
      have h4 : ordCmp p y = 0 := by have := ordCmp_ok.swap y p; omega
      have := ordCmp_ok.zero_left (c := x) h4
      omega
    · rw [if_neg c]
      have h0 : ordCmp y p ≠ 0 := fun e => c (eqO_iff.2 e)
      have hsw := ordCmp_ok.swap y p
      have hlt : ordCmp p y < 0 := by omega
      refine ⟨fun x hx => ?_, List.pairwise_cons.2 ⟨fun x hx => i1 x hx, i2⟩⟩
      rcases List.mem_cons.1 hx with rfl | hx
      · exact hlt
      · have h3 := i1 x hx
        have h4 := ordCmp_ok.trans p y x (by omega) (by omega)
        have h5 := ordCmp_ok.swap p x
        by_cases e : ordCmp p x = 0
        · have := ordCmp_ok.trans y x p (by omega) (by omega)
          omega
        · omega
theorem compF_strict {s : List StD} (h : s.Pairwise fun a b => ordCmp a b ≤ 0) : (compF eqO s).Pairwise fun a b => ordCmp a b < 0 := by
  cases s with
  | nil => exact List.Pairwise.nil
  | cons p l =>
    obtain ⟨h1, h2⟩ := comp_strict l p h
    exact List.pairwise_cons.2 ⟨h1, h2⟩
theorem merge_same_set {l l' m m' : List StD} (h : MergeOk l m) (h' : MergeOk l' m') (hc : ∀ x ∈ l, ∃ y ∈ l', ordCmp x y = 0) (hc' : ∀ x ∈ l', ∃ y ∈ l, ordCmp x y = 0) : m = m' := by
  obtain ⟨s, p1, p2, rfl⟩ := h
  obtain ⟨s', q1, q2, rfl⟩ := h'
  rw [← numL_nz, ← numL_nz (compF eqO s')]
  congr 1
  have hmem : ∀ {l l' s s' : List StD}, s.Perm l → s'.Perm l' → (∀ x ∈ l, ∃ y ∈ l', ordCmp x y = 0) → ∀ x, x ∈ (compF eqO s).map nz → x ∈ (compF eqO s').map nz := by
    intro l l' s s' p1 q1 hc x hx
    obtain ⟨u, hu, rfl⟩ := List.mem_map.1 hx
    obtain ⟨y, hy, e⟩ := hc u (p1.mem_iff.1 ((compF_sub _ _).subset hu))
    obtain ⟨z, hz, e2⟩ := compF_cov eqO_refl eqO_symm eqO_trans (q1.mem_iff.2 hy)
    refine List.mem_map.2 ⟨z, hz, ?_⟩
    have := eqO_trans u y z (eqO_iff.2 e) e2
    exact (nz_inj (eqO_iff.1 this)).symm
  refine strict_eq (lt := fun a b => ordCmp a b < 0) (fun a => by have := ordCmp_ok.swap a a; omega) (fun a b h => by have := ordCmp_ok.swap a b; omega) (List.pairwise_map.2 ?_) (List.pairwise_map.2 ?_) (fun x => ⟨hmem p1 q1 hc x, hmem q1 p1 hc' x⟩)
  · exact (compF_strict p2).imp fun {a b} h => by rw [ordCmp_nz]; exact h
  · exact (compF_strict q2).imp fun {a b} h => by rw [ordCmp_nz]; exact h
theorem ordCmp_self (a : StD) : ordCmp a a = 0 := eqO_iff.1 (eqO_refl a)
/-- Twice the same list is that list. -/
theorem merge_twice {l m m' : List StD} (h : MergeOk (l ++ l) m) (h' : MergeOk (l ++ []) m') : m = m' :=
  merge_same_set h h' (fun x hx => ⟨x, by simpa using hx, ordCmp_self x⟩) (fun x hx => ⟨x, by simpa using hx, ordCmp_self x⟩)
end Go.Proofs.YtmlpfbffecdepaaGreatDoor
