/- Texts of this claim, put together: SplitC, RuneP, MeasP, IG, Dist. -/
import Derived.Test.YtbidhpgjmcedaaaGreatDoorGAM
import Derived.Test.YtbidhpgjmcedaaaGreatDoorGAG
import Derived.Test.YtbidhpgjmcedaaaGreatDoorGAK
import Derived.Shelf.Unicode.DecodeSlow
import Derived.Test.YtbidhpgjmcedaaaGreatDoorGAW
import Derived.Test.YtbidhpgjmcedaaaGreatDoorGAH
import Derived.Test.YtbidhpgjmcedaaaGreatDoorGAE
import Derived.StillTailTactics
import Derived.Deep.Cut
/- Where a rising list is split by a sign; the value of a field by its name, in a rising list. -/
namespace Go.Proofs.YtbidhpgjmcedaaaGreatDoor
set_option linter.unusedVariables false
open Go.RowKit
theorem splitC_at {D : Type} (c : D → Int) (ds : List D) (hs : ∀ i j (hi : i < ds.length) (hj : j < ds.length), i < j → 0 ≤ c ds[i] → 0 < c ds[j]) :
    ∃ m, m = (ds.takeWhile fun d => decide (c d < 0)).length ∧ m ≤ ds.length ∧ (∀ i (h : i < ds.length), i < m → c ds[i] < 0) ∧ (∀ i (h : i < ds.length), m ≤ i → 0 ≤ c ds[i]) ∧ (∀ p : D → Bool, (∀ d, p d = true ↔ c d = 0) → ds.find? p = if hasAt c ds m = true then ds[m]? else none) := by
  refine ⟨(ds.takeWhile fun d => decide (c d < 0)).length, rfl, ?_, ?_, ?_, ?_⟩
  · exact (List.takeWhile_sublist _).length_le
  · intro i h hi
    have e : ds = (ds.takeWhile fun d => decide (c d < 0)) ++ (ds.dropWhile fun d => decide (c d < 0)) := List.takeWhile_append_dropWhile.symm
    have h1 : ds[i]? = (ds.takeWhile fun d => decide (c d < 0))[i]? := by
      conv => lhs; rw [e]
      rw [List.getElem?_append_left hi]
    rw [List.getElem?_eq_getElem h, List.getElem?_eq_getElem hi] at h1
    injection h1 with h1
    have h2 := List.all_takeWhile (p := fun d => decide (c d < 0)) (l := ds)
    have h3 := List.all_eq_true.1 h2 _ (List.getElem_mem hi)
    rw [← h1] at h3
    simpa using h3
  · intro i h hi
    have e : ds = (ds.takeWhile fun d => decide (c d < 0)) ++ (ds.dropWhile fun d => decide (c d < 0)) := List.takeWhile_append_dropWhile.symm
    generalize hk : (ds.takeWhile fun d => decide (c d < 0)).length = k at hi
    have hkl : k < ds.length := by omega
    have hd : (ds.dropWhile fun d => decide (c d < 0)).head? = some ds[k] := by
      have : ds[k]? = (ds.dropWhile fun d => decide (c d < 0))[0]? := by
        conv => lhs; rw [e]
        rw [List.getElem?_append_right (by omega), hk, Nat.sub_self]
      rw [List.head?_eq_getElem?, ← this, List.getElem?_eq_getElem hkl]
    have h0 : 0 ≤ c ds[k] := by
      have := List.head?_dropWhile_not (fun d => decide (c d < 0)) ds
      rw [hd] at this
      simpa using this
    rcases Nat.lt_or_eq_of_le hi with hlt | heq
    · exact Int.le_of_lt (hs k i hkl h hlt h0)
    · subst heq; exact h0
  · intro p hp
    have e : ds = (ds.takeWhile fun d => decide (c d < 0)) ++ (ds.dropWhile fun d => decide (c d < 0)) := List.takeWhile_append_dropWhile.symm
    generalize hk : (ds.takeWhile fun d => decide (c d < 0)).length = k
    have hget : ds[k]? = (ds.dropWhile fun d => decide (c d < 0))[0]? := by
      conv => lhs; rw [e]
      rw [List.getElem?_append_right (by omega), hk, Nat.sub_self]
    have hfT : (ds.takeWhile fun d => decide (c d < 0)).find? p = none := by
      rw [List.find?_eq_none]
      intro d hd
      have := List.all_eq_true.1 (List.all_takeWhile (p := fun d => decide (c d < 0)) (l := ds)) d hd
      have h2 : c d < 0 := by simpa using this
      rw [hp]; omega
    have hf : ds.find? p = (ds.dropWhile fun d => decide (c d < 0)).find? p := by
      conv => lhs; rw [e]
      rw [List.find?_append, hfT]; rfl
    rw [hf]
    unfold hasAt
    rw [hget]
    have hmem : ∀ y, (ds.dropWhile fun d => decide (c d < 0))[0]? = some y → ∀ i (h : i < ds.length), k < i → c y = 0 → 0 < c ds[i] := by
      intro y hy i h hki hcy
      have hkl : k < ds.length := by omega
      rw [← hget, List.getElem?_eq_getElem hkl] at hy
      injection hy with hy
      exact hs k i hkl h hki (by rw [hy, hcy]; exact Int.le_refl 0)
    have hge : ∀ y, (ds.dropWhile fun d => decide (c d < 0))[0]? = some y → 0 ≤ c y := by
      intro y hy
      have := List.head?_dropWhile_not (fun d => decide (c d < 0)) ds
      rw [List.head?_eq_getElem?, hy] at this
      simpa using this
    have hall : ∀ y, (ds.dropWhile fun d => decide (c d < 0))[0]? = some y → ∀ d ∈ (ds.dropWhile fun d => decide (c d < 0)).tail, 0 < c d := by
      intro y hy d hd
      obtain ⟨i, hi, rfl⟩ := List.mem_iff_getElem.1 hd
      have hlen : (ds.dropWhile fun d => decide (c d < 0)).length = ds.length - k := by
        have := congrArg List.length e
        rw [List.length_append, hk] at this; omega
      have hi2 : i < ds.length - k - 1 := by simpa [hlen] using hi
      have hkl : k < ds.length := by omega
      have e3 : (ds.dropWhile fun d => decide (c d < 0)).tail[i] = ds[k + 1 + i] := by
        have : some ((ds.dropWhile fun d => decide (c d < 0)).tail[i]) = some (ds[k + 1 + i]) := by
          rw [← List.getElem?_eq_getElem, ← List.getElem?_eq_getElem]
          conv => rhs; rw [e]
          rw [List.getElem?_append_right (by omega), hk, List.getElem?_tail]
          congr 1; omega
        injection this
      rw [e3]
      rw [← hget, List.getElem?_eq_getElem hkl] at hy
      injection hy with hy
      exact hs k (k + 1 + i) hkl (by omega) (by omega) (by rw [hy]; exact hge y (by rw [← hget, List.getElem?_eq_getElem hkl, hy]))
    cases hq : ds.dropWhile fun d => decide (c d < 0) with
    | nil => simp
    | cons y r =>
      rw [hq] at hall hge
      simp only [List.getElem?_cons_zero]
      by_cases hy : c y = 0
      · have : p y = true := (hp y).2 hy
        simp [this, hy]
      · have hpy : p y = false := by
          cases hpy : p y with
          | false => rfl
          | true => exact absurd ((hp y).1 hpy) hy
        have hr : r.find? p = none := by
          rw [List.find?_eq_none]
          intro d hd
          have := hall y rfl d (by simpa using hd)
          rw [hp]; omega
        simp [hpy, hr, hy]
theorem hasC_some {D : Type} {c : D → Int} {ds : List D} {m : Nat} (h : hasAt c ds m = true) : ∃ hl : m < ds.length, ds[m]? = some ds[m] := by
  unfold hasAt at h
  cases e : ds[m]? with
  | none => rw [e] at h; cases h
  | some d => obtain ⟨hl, e2⟩ := List.getElem?_eq_some_iff.1 e; exact ⟨hl, by rw [e2]⟩
def FdSorted (fs : List FD) : Prop := fs.Pairwise fun a b => cmpS a.name b.name < 0
theorem fd_steps {fs : List FD} (h : FdSorted fs) (name : ByteArray) : ∀ i j (hi : i < fs.length) (hj : j < fs.length), i < j → 0 ≤ cmpS fs[i].name name → 0 < cmpS fs[j].name name := by
  intro i j hi hj hij h0
  have h1 := List.pairwise_iff_getElem.1 h i j hi hj hij
  have h2 := cmpS_swap fs[i].name name
  have h3 := cmpS_swap name fs[j].name
  have : cmpS name fs[i].name ≤ 0 := by omega
  have h4 := cmpS_le_trans this h1
  omega
def vO (o : Option VD) : Value := match o with | none => .agg #[.int .i64 0, .string ⟨#[]⟩, .int .i64 0] | some v => .agg #[.int .i64 v.kind, .string v.text, .int .i64 v.num]
end Go.Proofs.YtbidhpgjmcedaaaGreatDoor

/- The code points of a text, plainly. -/
namespace Go.Proofs.YtbidhpgjmcedaaaGreatDoor
set_option linter.unusedVariables false
/-- The first code point of a text; of a byte that begins none: one below 0. -/
def runeOf (s : ByteArray) : Int := if (Lib.decodeGo s).1 = 65533 ∧ (Lib.decodeGo s).2 = 1 then -1 - ((s.data.toList.headD 0).toNat : Int) else ((Lib.decodeGo s).1 : Int)
def restOf (s : ByteArray) : ByteArray := s.extract (Lib.decodeGo s).2 s.size
def ptF : Nat → ByteArray → List Int
  | 0, _ => []
  | n + 1, s => if s.size = 0 then [] else runeOf s :: ptF n (restOf s)
/-- The code points of a text. -/
def ptS (s : ByteArray) : List Int := ptF s.size s
theorem decN_bound (n b0 b1 b2 b3 : Nat) (hn : 1 ≤ n) (h0 : b0 < 256) : 1 ≤ (Lib.decodeN n b0 b1 b2 b3).2 ∧ (Lib.decodeN n b0 b1 b2 b3).2 ≤ n ∧ (Lib.decodeN n b0 b1 b2 b3).1 ≤ 1114111 := by
  unfold Lib.decodeN
  repeat' split
  all_goals (simp only; omega)
theorem dec_bound {s : ByteArray} (h : 0 < s.size) : 1 ≤ (Lib.decodeGo s).2 ∧ (Lib.decodeGo s).2 ≤ s.size ∧ (Lib.decodeGo s).1 ≤ 1114111 := by
  unfold Lib.decodeGo
  rw [if_neg (by omega), Lib.decode_at]
  exact decN_bound (s.size - 0) _ _ _ _ (by omega) (UInt8.toNat_lt _)
theorem restOf_size {s : ByteArray} (h : 0 < s.size) : (restOf s).size < s.size ∧ (restOf s).size = s.size - (Lib.decodeGo s).2 := by
  have := dec_bound h
  unfold restOf
  rw [ByteArray.size_extract]
  omega
theorem ptF_more : ∀ (n m : Nat) (s : ByteArray), s.size ≤ n → s.size ≤ m → ptF n s = ptF m s
  | 0, 0, s, _, _ => rfl
  | 0, m + 1, s, h, _ => by unfold ptF; rw [if_pos (by omega)]
  | n + 1, 0, s, _, h => by unfold ptF; rw [if_pos (by omega)]
  | n + 1, m + 1, s, h1, h2 => by
    unfold ptF
    by_cases h : s.size = 0
    · rw [if_pos h, if_pos h]
    · rw [if_neg h, if_neg h]
      have := (restOf_size (s := s) (by omega)).1
      rw [ptF_more n m (restOf s) (by omega) (by omega)]
theorem ptS_nil {s : ByteArray} (h : s.size = 0) : ptS s = [] := by
  unfold ptS
  rw [h]
  rfl
theorem ptS_step {s : ByteArray} (h : 0 < s.size) : ptS s = runeOf s :: ptS (restOf s) := by
  obtain ⟨n, hn⟩ : ∃ n, s.size = n + 1 := ⟨s.size - 1, by omega⟩
  have h2 := (restOf_size h).1
  unfold ptS
  rw [hn]
  conv => lhs; unfold ptF
  rw [if_neg (by omega), ptF_more n (restOf s).size (restOf s) (by omega) (Nat.le_refl _)]
theorem ptF_len : ∀ (n : Nat) (s : ByteArray), (ptF n s).length ≤ n
  | 0, s => by simp [ptF]
  | n + 1, s => by
    unfold ptF
    split
    · simp
    · have := ptF_len n (restOf s)
      simp only [List.length_cons]
      omega
theorem ptS_len (s : ByteArray) : (ptS s).length ≤ s.size := ptF_len _ s
theorem runeOf_bound {s : ByteArray} (h : 0 < s.size) : -300 ≤ runeOf s ∧ runeOf s ≤ 1114111 := by
  have := dec_bound h
  have := (s.data.toList.headD 0).toNat_lt
  unfold runeOf
  split <;> omega
end Go.Proofs.YtbidhpgjmcedaaaGreatDoor

/- Measures: what is wrong with them; right fields rise; points stay small. -/
namespace Go.Proofs.YtbidhpgjmcedaaaGreatDoor
set_option linter.unusedVariables false
open Go.RowKit
def lowF (m : MsD) : Int := if m.how = 1 then 0 else 1
def highF (m : MsD) : Int := if m.how = 1 then 0 else 20
def ms0 (m : MsD) : Int := if isKey m.name = false then 5 else if ¬ (1 ≤ m.how ∧ m.how ≤ 3) then 4 else if ¬ (lowF m ≤ m.far ∧ m.far ≤ highF m) then 1 else if ¬ (-1000 ≤ m.pts ∧ m.pts ≤ 1000) then 1 else 0
def ms1 (ms : List MsD) (i : Nat) : Int := match ms[i]? with
  | none => 0
  | some m => ms0 m
/-- What is wrong with measures. -/
def msE (ms : List MsD) : Int := if ms.length = 0 then 3 else if 20 < ms.length then 2 else fstErr (ms1 ms) ms.length
theorem ms1_at {ms : List MsD} {i : Nat} (h : i < ms.length) : ms1 ms i = ms0 ms[i] := by
  unfold ms1
  rw [List.getElem?_eq_getElem h]
structure RightM (m : MsD) : Prop where
  name : isKey m.name = true
  how : 1 ≤ m.how ∧ m.how ≤ 3
  far : lowF m ≤ m.far ∧ m.far ≤ highF m
  pts : -1000 ≤ m.pts ∧ m.pts ≤ 1000
theorem ms_right {ms : List MsD} (h : msE ms = 0) : ms.length ≤ 20 ∧ ∀ m ∈ ms, RightM m := by
  unfold msE at h
  split at h
  · cases h
  split at h
  · cases h
  have h0 := fstErr_zero.1 h
  refine ⟨by omega, fun m hm => ?_⟩
  obtain ⟨i, hi, rfl⟩ := List.getElem_of_mem hm
  have := h0 i hi
  rw [ms1_at hi] at this
  unfold ms0 at this
  split at this
  · cases this
  split at this
  · cases this
  split at this
  · cases this
  split at this
  · cases this
  rename_i h1 h2 h3 h4
  exact ⟨by simpa using h1, Decidable.not_not.1 h2, Decidable.not_not.1 h3, Decidable.not_not.1 h4⟩
theorem RightM.far20 {m : MsD} (h : RightM m) : 0 ≤ m.far ∧ m.far ≤ 20 := by
  have h1 := h.far
  unfold lowF highF at h1
  split at h1 <;> omega
theorem ptsOf_bound (pt : ByteArray → List Int) (a b : List FD) {m : MsD} (h : RightM m) : -1000 ≤ ptsOf pt a b m ∧ ptsOf pt a b m ≤ 1000 := by
  have := h.pts
  unfold ptsOf
  split
  · split <;> omega
  · omega
theorem score_bound (pt : ByteArray → List Int) (a b : List FD) : ∀ (ms : List MsD), (∀ m ∈ ms, RightM m) → -(1000 * (ms.length : Int)) ≤ scoreL pt ms a b ∧ scoreL pt ms a b ≤ 1000 * (ms.length : Int)
  | [], _ => by simp [scoreL]
  | m :: ms, h => by
    have h1 := ptsOf_bound pt a b (h m (by simp))
    have h2 := score_bound pt a b ms (fun x hx => h x (by simp [hx]))
    unfold scoreL at h2 ⊢
    simp only [List.map_cons, List.sum_cons, List.length_cons]
    omega
theorem score_snoc (pt : ByteArray → List Int) (a b : List FD) (ms : List MsD) (m : MsD) : scoreL pt (ms ++ [m]) a b = scoreL pt ms a b + ptsOf pt a b m := by
  unfold scoreL
  simp
/-- Right fields rise; their values are right. -/
theorem fds_right {ok : ByteArray → Bool} {fs : List FD} (h : fdsE ok fs = 0) : fs.length ≤ 30 ∧ FdSorted fs ∧ ∀ f ∈ fs, isKey f.name = true ∧ valErr ok f.v = 0 := by
  unfold fdsE at h
  split at h
  · cases h
  have h0 := fstErr_zero.1 h
  have hE : ∀ i (hi : i < fs.length), isKey fs[i].name = true ∧ valErr ok fs[i].v = 0 ∧ ¬ (0 < i ∧ 0 ≤ cmpS (fs.getD (i - 1) fs[i]).name fs[i].name) := fun i hi => by
    have := h0 i hi
    rw [fd1_at hi] at this
    split at this
    · cases this
    rename_i h1
    split at this
    · rename_i h2; exact absurd this h2
    rename_i h2
    split at this
    · cases this
    rename_i h3
    exact ⟨by simpa using h1, Decidable.not_not.1 h2, h3⟩
  refine ⟨by omega, chainP (R := fun a b : FD => cmpS a.name b.name < 0) (fun a b c h1 h2 => cmpS_trans h1 h2) fun i hi => ?_, fun f hf => ?_⟩
  · have h4 := (hE (i + 1) hi).2.2
    have h5 : fs.getD (i + 1 - 1) fs[i + 1] = fs[i] := by
      rw [Nat.add_sub_cancel, List.getD_eq_getElem?_getD, List.getElem?_eq_getElem (by omega), Option.getD_some]
    rw [h5] at h4
    have : ¬ 0 ≤ cmpS fs[i].name fs[i + 1].name := fun c => h4 ⟨by omega, c⟩
    omega
  · obtain ⟨i, hi, rfl⟩ := List.getElem_of_mem hf
    exact ⟨(hE i hi).1, (hE i hi).2.1⟩
theorem val_text {ok : ByteArray → Bool} {v : VD} (h : valErr ok v = 0) : v.text.size ≤ 200 := by
  unfold valErr at h
  split at h
  · split at h
    · unfold txtErr at h
      split at h
      · cases h
      · omega
    · cases h
  · split at h
    · split at h
      · cases h
      · omega
    · cases h
end Go.Proofs.YtbidhpgjmcedaaaGreatDoor

/- A row of structs in the making, in a function that only makes memory. -/
namespace Go.Proofs.YtbidhpgjmcedaaaGreatDoor
set_option linter.unusedVariables false
open Go.RowKit
/-- A row in the making, in a function that only makes memory. -/
structure IG {D : Type} (T k : Nat) (f : D → Nat → Value) (H : Frz) (B : Nat) (v : Value) (ds : List D) (w W : World) : Prop where
  inn : H.In W
  row : Orow W B T k f v ds
  own : ∀ g, v.ownBlock = some g → H g = none
  bel : Below w.heap.size w W
  hB : w.heap.size ≤ B
  le : B ≤ W.heap.size
section
variable {D : Type} {T k : Nat} {f : D → Nat → Value} {H : Frz} {B : Nat} {v v' : Value} {ds ds' : List D} {w W W' : World}
theorem IG.below (h : IG T k f H B v ds w W) (hb : Below W.heap.size W W') : IG T k f H B v ds w W' :=
  ⟨h.inn.below hb, h.row.below hb, h.own, h.bel.trans (hb.mono h.bel.size), h.hB, Nat.le_trans h.le hb.size⟩
theorem IG.app (h : IG T k f H B v ds w W) (o : Orow W' B T k f v' ds') (g1 : W.grownBy W' v.ownBlock) (at1 : v'.ownBlock = v.ownBlock ∨ ∃ g, v'.ownBlock = some g ∧ W.heap.size < g) : IG T k f H B v' ds' w W' :=
  ⟨h.inn.grown' g1 h.own, o, (fun q hq => by
    rcases at1 with e | ⟨g, e, hg⟩
    · exact h.own q (by rw [← e]; exact hq)
    · rw [e] at hq; injection hq with hq; exact h.inn.none_ (by omega)), h.bel.grown g1 h.bel.size (fun g hg => Nat.le_trans h.hB (h.row.lt hg).1), h.hB, Nat.le_trans h.le g1.size⟩
theorem IG.put (h : IG T k f H B v ds w W) (o : Obj) : ∃ H', H.Le H' ∧ H' W.heap.size = some o ∧ IG T k f H' B v ds w (W.alloc o) := by
  have h2 := h.below (new1 o)
  refine ⟨H.add W.heap.size o, Frz.le_add (h.inn.none_ (Nat.le_refl _)), Frz.add_at _ _ _, h2.inn.add (heap_at rfl), h2.row, fun g hg => ?_, h2.bel, h2.hB, h2.le⟩
  rw [Frz.add_other (by have := (h.row.lt hg).2; omega)]
  exact h.own g hg
theorem IG.less {H' : Frz} (h : IG T k f H' B v ds w W) (hl : H.Le H') : IG T k f H B v ds w W :=
  ⟨h.inn.le hl, h.row, (fun g hg => by
    cases e : H g with
    | none => rfl
    | some o => (have := hl g o e; rw [h.own g hg] at this; cases this)), h.bel, h.hB, h.le⟩
/-- One cell of an element changed. -/
theorem IG.upd {go capg n : Nat} (h : IG T k f H B (.slice (some ⟨go, 0, none⟩) n capg) ds w W) (hn : n = ds.length) {p : Nat} (hp : p < ds.length) {j : Nat} (hj : j < k) (d' : D) {x : Value} (hx : f d' j = x) (ho : ∀ m, m < k → m ≠ j → f d' m = f ds[p] m) :
    W.cell? ⟨go, p * k + j, none⟩ = some (f ds[p] j) ∧ W.frozen? ⟨go, p * k + j, none⟩ = false ∧ IG T k f H B (.slice (some ⟨go, 0, none⟩) n capg) (ds.set p d') w (W.setCell ⟨go, p * k + j, none⟩ x) := by
  subst hn
  have hne : ds ≠ [] := by intro e; rw [e] at hp; simp at hp
  obtain ⟨g', cap', rest, hv, hle', hB', hlt, hm', hblk, hr⟩ := h.row.form hne
  injection hv with e1 _ e2
  injection e1 with e1
  injection e1 with e1
  subst e1 e2
  have hnone : H go = none := h.own go rfl
  refine ⟨hblk.cell p j hp hj, hblk.frozen _, h.inn.setCell (p := ⟨go, p * k + j, none⟩) hnone _, ?_, h.own, h.bel.setCell (show w.heap.size ≤ go from Nat.le_trans h.hB hB') _, h.hB, by have := h.le; simpa [World.setCell] using this⟩
  have := Orow.of_blk (B := B) (hblk.upd p j hp hj hx ho) hB' hm' (by simpa using hle') (by simpa using hr)
  simpa using this
end
end Go.Proofs.YtbidhpgjmcedaaaGreatDoor

/- The edit distance of two lists of code points. -/
namespace Go.Proofs.YtbidhpgjmcedaaaGreatDoor
set_option linter.unusedVariables false
open Go.RowKit
def fR (z : Int) (_ : Nat) : Value := .int .i32 z
/-- The row in the making: the cells up to j are of the next line. -/
def rowF (a b : List Int) (i j k : Nat) : Int := if k ≤ j then levAt a b (i + 1) k else levAt a b i k
set_option maxHeartbeats 4000000 in
set_option maxRecDepth 100000 in
theorem distance_any (H : Frz) (A B : Option Addr) (ca cb : Nat) (a b : List Int) (w : World) (hH : H.In w) (hA : Rw H A 1 fR a) (hB : Rw H B 1 fR b) (la : a.length ≤ 1000000) (lb : b.length ≤ 1000000) :
    Calls Tryz.prog 76 #[.slice A a.length ca, .slice B b.length cb] w fun e w' => e = .returned (.int .i64 (distL a b)) ∧ Below w.heap.size w w' := by
  obtain ⟨i0, hi0, hz0, hz1, hz2⟩ := info_parts (show (Tryz.prog.info? 3).map (fun i => (i.zero, i.size, i.bytes)) = some (some (.int .i64 0), 1, 8) by kernel_rfl)
  have HA := Lib.hid hA
  have HB := Lib.hid hB
  have HMK : Hid (∀ w2 : World, w2.ownsRow w.heap.size 3 1 (.slice (some ⟨w.heap.size, 0, none⟩) (b.length + 1) (b.length + 1)) (b.length + 1) (madeCells (Value.int .i64 0).cells ((b.length + 1) * 1)).toList → w.grownBy w2 none → TabS H w w.heap.size (b.length + 1) (fun k => if k < 0 then (k : Int) else 0) w2) := by
    intro w2 h1 h2
    have hb2 : Below w.heap.size w w2 := ⟨h2.os, h2.tape, h2.output, h2.size, fun k hk => h2.block k hk (by simp)⟩
    exact ⟨hH.below hb2, hb2, by simpa using made_ints h1, Nat.le_refl _, hH.none_ (Nat.le_refl _)⟩
  clear hA hB hH
  go_enter Tryz.func76, Tryz.ntmps76
  go_upto_region 2 with (at_make; refine wpList_make_full _ rfl _ _ 22 rfl w.heap.size 3 i0 (.int .i64 0) 1 Tryz.underlying22 hi0 hz0 hz1 _ _ _ _ (b.length + 1) rfl rfl rfl rfl (by rw [hz2]; omega) (by simp only [maxLen]; omega) (Nat.le_refl _) ?_; intro w2 hown2 hgrow2; have J0 := Lib.hid (HMK.out _ hown2 hgrow2); clear hown2 hgrow2 HMK)
  have hsz : w.heap.size ≤ w.heap.size := Nat.le_refl _
  generalize hg0 : w.heap.size = g at *
  have HG0 := Lib.hid hg0
  clear hg0 hsz
  obtain ⟨n, hn⟩ : ∃ n, n = b.length := ⟨_, rfl⟩
  rw [← hn] at J0 ⊢
  have hnb : n ≤ 1000000 := by rw [hn]; exact lb
  have HN := Lib.hid hn
  clear hn
  go_wp2_with fail
  go_loopw [19] (fun t wr => ∃ k : Nat, k ≤ n + 1 ∧ t = .int .i64 k ∧ Hid (TabS H w g (n + 1) (fun q => if q < k then (q : Int) else 0) wr)) (fun t _ => n + 1 - (intOf t).toNat)
  case atStart => exact ⟨0, by omega, rfl, J0⟩
  case round =>
    obtain ⟨k, hk, rfl, J⟩ := hrel
    clear J0
    by_cases hlt : k < n + 1
    · have c := J.out.cell k hlt
      have f := J.out.froz k
      have J2 : Hid (TabS H w g (n + 1) (fun q => if q < k + 1 then (q : Int) else 0) (wr.setCell ⟨g, k, none⟩ (.int .i64 (k : Int)))) := by
        refine (J.out.set k hlt (k : Int)).congr fun q hq => ?_
        by_cases e : q = k
        · subst e; simp
        · rw [if_neg e]
          by_cases e2 : q < k
          · rw [if_pos e2, if_pos (by omega)]
          · rw [if_neg e2, if_neg (by omega)]
      simp only [Nat.lt_irrefl, if_false] at c
      clear J
      go_wp2_with fail
      go_roundw
      case rel => exact ⟨k + 1, by omega, by go_num, J2⟩
      case measure => simp [intOf]; omega
    · have hke : k = n + 1 := by omega
      subst hke
      have JT : Hid (TabS H w g (n + 1) (levAt a b 0) wr) := J.out.congr fun q hq => by
        rw [if_pos hq, levAt_zero a b (by have := HN.out; omega)]
      clear J
      obtain ⟨w3, rfl⟩ : ∃ w3 : World, w3 = wr := ⟨_, rfl⟩
      go_wp2_with fail
      go_loopw [29] (fun t wr => ∃ i : Nat, i ≤ a.length ∧ t = .int .i64 i ∧ Hid (TabS H w g (n + 1) (levAt a b i) wr)) (fun t _ => a.length - (intOf t).toNat)
      case atStart => exact ⟨0, by omega, rfl, JT⟩
      case round =>
        obtain ⟨i, hi, rfl, J⟩ := hrel
        clear JT
        by_cases hlt : i < a.length
        · obtain ⟨b1, o1, hA, _, hc⟩ := HA.out.at_ J.out.inn hlt (by omega)
          have x0 : wr.cell? ⟨b1, o1 + i, none⟩ = some (.int .i32 a[i]) := by simpa [fR] using hc 0 (by omega)
          have r0 := J.out.cell 0 (by omega)
          have f0 := J.out.froz 0
          have JR : Hid (TabS H w g (n + 1) (rowF a b i 0) (wr.setCell ⟨g, 0, none⟩ (.int .i64 ((i : Int) + 1)))) := by
            refine (J.out.set 0 (by omega) ((i : Int) + 1)).congr fun q hq => ?_
            unfold rowF
            by_cases e : q = 0
            · subst e
              rw [if_pos rfl, if_pos (Nat.le_refl _), levAt_zero_right a b (by omega)]
              rfl
            · rw [if_neg e, if_neg (by omega)]
          have HL0 : Hid (levAt a b i 0 = (i : Int)) := levAt_zero_right a b (by omega)
          subst hA
          clear hc J
          have hlt2 : (i : Int) < a.length := by omega
          go_wp2_with fail
          clear r0 f0
          generalize wr.setCell ⟨g, 0, none⟩ (.int .i64 ((i : Int) + 1)) = w4 at *
          go_loopw [9, 43] (fun v t wr => ∃ j : Nat, j ≤ n ∧ t = .int .i64 j ∧ v = .int .i64 (levAt a b i j) ∧ Hid (TabS H w g (n + 1) (rowF a b i j) wr)) (fun _ t _ => n - (intOf t).toNat)
          case atStart => exact ⟨0, by omega, rfl, by rw [HL0.out], JR⟩
          case round =>
            obtain ⟨j, hj, rfl, rfl, J⟩ := hrel
            clear JR
            by_cases hlj : j < n
            · have hjb : j < b.length := by have := HN.out; omega
              obtain ⟨b2, o2, hB, _, hc⟩ := HB.out.at_ J.out.inn hjb (by omega)
              have y0 : wr.cell? ⟨b2, o2 + j, none⟩ = some (.int .i32 b[j]) := by simpa [fR] using hc 0 (by omega)
              have r0 := J.out.cell j (by omega)
              have r1 := J.out.cell (j + 1) (by omega)
              have f1 := J.out.froz (j + 1)
              have e0 : rowF a b i j j = levAt a b (i + 1) j := by unfold rowF; rw [if_pos (Nat.le_refl _)]
              have e1 : rowF a b i j (j + 1) = levAt a b i (j + 1) := by unfold rowF; rw [if_neg (by omega)]
              rw [e0] at r0
              rw [e1] at r1
              have HV := Lib.hid (levAt_succ a b hlt hjb)
              have q1 := levAt_bound a b i j
              have q2 := levAt_bound a b (i + 1) j
              have q3 := levAt_bound a b i (j + 1)
              have JN : Hid (∀ x : Int, x = levAt a b (i + 1) (j + 1) → TabS H w g (n + 1) (rowF a b i (j + 1)) (wr.setCell ⟨g, j + 1, none⟩ (.int .i64 x))) := by
                intro x hx
                refine (J.out.set (j + 1) (by omega) x).congr fun q hq => ?_
                unfold rowF
                by_cases e : q = j + 1
                · subst e
                  rw [if_pos rfl, if_pos (Nat.le_refl _), hx]
                · rw [if_neg e]
                  by_cases e2 : q ≤ j
                  · rw [if_pos e2, if_pos (by omega)]
                  · rw [if_neg e2, if_neg (by omega)]
              subst hB
              have hlj2 : (j : Int) < n := by omega
              have hjb2 : (j : Int) < b.length := by omega
              clear hc e0 e1 J
              generalize a[i] = x at *
              generalize b[j] = y at *
              generalize levAt a b i j = v1 at *
              generalize levAt a b (i + 1) j = v2 at *
              generalize hv3 : levAt a b i (j + 1) = v3 at *
              have HE3 := Lib.hid hv3
              clear hv3
              generalize levAt a b (i + 1) (j + 1) = v4 at *
              by_cases e : x = y
              · have HV2 := HV.out
                rw [if_pos e] at HV2
                have HV3 := Lib.hid HV2
                have k1 : (x != y) = false := by simpa using e
                clear HV HV2 e
                go_wp2_with fail
                go_roundw
                case rel =>
                  refine ⟨j + 1, by omega, by go_num, by rw [HE3.out], JN.out _ ?_⟩
                  have := HV3.out
                  split <;> split at * <;> omega
                case measure => simp [intOf]; omega
              · have HV2 := HV.out
                rw [if_neg e] at HV2
                have HV3 := Lib.hid HV2
                have k1 : (x != y) = true := by simpa using e
                clear HV HV2 e
                go_wp2_with fail
                go_roundw
                case rel =>
                  refine ⟨j + 1, by omega, by go_num, by rw [HE3.out], JN.out _ ?_⟩
                  have := HV3.out
                  split <;> split at * <;> omega
                case measure => simp [intOf]; omega
            · have hje : j = n := by omega
              subst hje
              have JO : Hid (TabS H w g (j + 1) (levAt a b (i + 1)) wr) := J.out.congr (G := levAt a b (i + 1)) fun q hq => by unfold rowF; rw [if_pos (by omega)]
              clear J
              go_wp2_with fail
              go_roundw
              case rel => exact ⟨i + 1, by omega, by go_num, JO⟩
              case measure => simp [intOf]; omega
        · have hie : i = a.length := by omega
          subst hie
          have c := J.out.cell n (by omega)
          have HF : Hid (Below w.heap.size w wr) := J.out.bel
          have HD : Hid (levAt a b a.length n = distL a b) := by show _ = _; unfold distL; rw [HN.out]
          rw [HD.out] at c
          clear J
          go_wp2_with fail
          go_ret
          exact ⟨rfl, HF.out⟩
end Go.Proofs.YtbidhpgjmcedaaaGreatDoor
