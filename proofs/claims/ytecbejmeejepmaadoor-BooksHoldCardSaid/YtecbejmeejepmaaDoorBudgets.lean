/- Budgets: what is wrong with them, as the program and the document say. -/
import Derived.Test.YtecbejmeejepmaaDoorRefKey
import Derived.Test.YtecbejmeejepmaaDoorIdxBudget
namespace Go.Proofs.YtecbejmeejepmaaDoor
set_option linter.unusedVariables false
open Go.RowKit

structure BudgetD where
  key : ByteArray
  cents : Int
  first : Int
  last : Int
  pace : Bool
def fB (d : BudgetD) : Nat → Value
  | 0 => .string d.key
  | 1 => .int .i64 d.cents
  | 2 => .int .i64 d.first
  | 3 => .int .i64 d.last
  | _ => .bool d.pace
theorem Frz.In.put {H : Frz} {w : World} (h : H.In w) (o : Obj) : ∃ H', H.Le H' ∧ H' w.heap.size = some o ∧ H'.In (w.alloc o) :=
  ⟨H.add w.heap.size o, Frz.le_add (h.none_ (Nat.le_refl _)), Frz.add_at _ _ _, (h.alloc o).add (heap_at rfl)⟩
theorem frz5 {H : Frz} {w : World} (h : H.In w) {g : Nat} {x y z u v : Value} {T : TypeId} (e : H g = some (.cells #[x, y, z, u, v] T (0, 0))) :
    w.cell? ⟨g, 0, none⟩ = some x ∧ w.cell? ⟨g, 1, none⟩ = some y ∧ w.cell? ⟨g, 2, none⟩ = some z ∧ w.cell? ⟨g, 3, none⟩ = some u ∧ w.cell? ⟨g, 4, none⟩ = some v := by
  have := h _ _ e
  simp [World.cell?, this]
def sameKey (k : ByteArray) (x : BudgetD) : Bool := x.key.toList == k.toList
def limB (d : BudgetD) : Bool := decide (0 ≤ d.cents) && decide (d.cents ≤ 1000000000000) && decide (0 ≤ d.first) && decide (d.first ≤ d.last) && decide (d.last ≤ 3000)
/-- What is right with the i-th of budgets. -/
def budAt (ds : List BudgetD) (i : Nat) : Prop := ∀ (h : i < ds.length), isKey ds[i].key = true ∧ anyF (sameKey ds[i].key) (ds.take i) = false ∧ limB ds[i] = true
def BudgetsOK (ds : List BudgetD) : Prop := ds.length ≤ 50 ∧ ∀ i, budAt ds i
theorem bstep_ok {ds : List BudgetD} {i : Nat} (h : ∀ j, j < i → budAt ds j) (hi : budAt ds i) : ∀ j, j < i + 1 → budAt ds j := fun j hj => by
  by_cases e : j = i
  · rw [e]; exact hi
  · exact h j (by omega)
def BPost (ds : List BudgetD) (w : World) (e : Ending) (w' : World) : Prop := ∃ n : Int, e = .returned (.int .i64 n) ∧ (n = 0 ↔ BudgetsOK ds) ∧ Below w.heap.size w w'
theorem BPost.bad {ds : List BudgetD} {w w' : World} {n : Int} (hn : n ≠ 0) (h : ¬ BudgetsOK ds) (hb : Below w.heap.size w w') : BPost ds w (.returned (.int .i64 n)) w' := ⟨n, rfl, ⟨fun e => absurd e hn, fun e => absurd e h⟩, hb⟩
theorem Rw.take {D : Type} {H : Frz} {A : Option Addr} {k : Nat} {f : D → Nat → Value} {ds : List D} (h : Rw H A k f ds) (n : Nat) : Rw H A k f (ds.take n) := fun i hi => by
  have hi' : i < ds.length := by simp at hi; omega
  obtain ⟨b, off, e, hc⟩ := h i hi'
  refine ⟨b, off, e, fun j hj => ?_⟩
  rw [hc j hj, List.getElem_take]
set_option maxHeartbeats 400000 in
theorem offWithin_any (n l h : Int) (w : World) : Calls Tryd.prog 32 #[.int .i64 n, .int .i64 l, .int .i64 h] w fun e w' => e = .returned (.bool (decide (l ≤ n) && decide (n ≤ h))) ∧ w = w' := by
  by_cases h1 : l ≤ n
  · go_enter Tryd.func32, Tryd.ntmps32
    go_wp2
    go_ret
    exact ⟨by simp [h1], rfl⟩
  · go_enter Tryd.func32, Tryd.ntmps32
    go_wp2
    go_ret
    exact ⟨by simp; omega, rfl⟩
theorem keyOf_any (s : ByteArray) (w : World) (hs : s.size ≤ 1000000000) :
    Calls Tryd.prog 38 #[.string s] w fun e w' => e = .returned (.bool (isKey s)) ∧ Below w.heap.size w w' := by
  have HS := Lib.hid hs
  clear hs
  go_enter Tryd.func38, Tryd.ntmps38
  go_wp2_with fail
  refine (Key_any s _ HS.out).mono ?_
  rintro e w1 ⟨rfl, hb⟩
  generalize hq : isKey s = q
  have HQ := Lib.hid hq
  have HB := Lib.hid hb
  clear hb hq
  go_wp2_with fail
  go_ret
  exact ⟨ret_bool' HQ.out.symm, HB.out⟩
theorem isKeyB_any (s : ByteArray) (w : World) (hs : s.size ≤ 1000000000) :
    Calls Tryd.prog 31 #[.string s] w fun e w' => e = .returned (.bool (isKey s)) ∧ Below w.heap.size w w' :=
  (isKey_any s w hs).mono fun e w' ⟨h, h'⟩ => ⟨h, h' ▸ Below.refl _ _⟩

set_option maxHeartbeats 1000000 in
theorem checkBudgets1_any (H : Frz) (b : Nat) (d x : BudgetD) (T : TypeId) (hb : H b = some (.cells #[.string d.key, .int .i64 d.cents, .int .i64 d.first, .int .i64 d.last, .bool d.pace] T (0, 0))) (w : World) (hH : H.In w) :
    Calls Tryd.prog 70 #[.agg #[fB x 0, fB x 1, fB x 2, fB x 3, fB x 4], .pointer (some ⟨b, 0, none⟩)] w fun e w' => e = .returned (.bool (sameKey d.key x)) ∧ Below w.heap.size w w' := by
  obtain ⟨x0, _⟩ := frz5 (hH.alloc (.cells #[.string x.key, .int .i64 x.cents, .int .i64 x.first, .int .i64 x.last, .bool x.pace] 59)) hb
  have hlt : b < w.heap.size := by
    have := hH _ _ hb
    exact (Array.getElem?_eq_some_iff.1 this).1
  have HV : Hid (sameKey d.key x = (x.key.toList == d.key.toList)) := rfl
  generalize sameKey d.key x = r at HV
  clear hH hb
  show Calls Tryd.prog 70 #[.agg #[.string x.key, .int .i64 x.cents, .int .i64 x.first, .int .i64 x.last, .bool x.pace], .pointer (some ⟨b, 0, none⟩)] w _
  generalize hq : (x.key.toList == d.key.toList) = q at HV
  go_enter Tryd.func70, Tryd.ntmps70
  go_wp2_with fail
  go_ret
  exact ⟨ret_bool' HV.out.symm, (Below.refl _ _).alloc (Nat.le_refl _) _⟩

set_option maxHeartbeats 4000000 in
set_option maxRecDepth 100000 in
theorem checkBudgets_any (H : Frz) (A : Option Addr) (cap : Nat) (ds : List BudgetD) (w : World) (hH : H.In w) (hR : Rw H A 5 fB ds) (hsz : ∀ d ∈ ds, d.key.size ≤ 1000000) (hl : ds.length ≤ 1000000) (hcap : ds.length ≤ cap) :
    Calls Tryd.prog 44 #[.slice A ds.length cap] w (BPost ds w) := by
  have HR := Lib.hid hR
  have HH := Lib.hid hH
  have HS := Lib.hid hsz
  clear hR hH hsz
  by_cases hbig : 50 < ds.length
  · go_enter Tryd.func44, Tryd.ntmps44
    go_wp2_with fail
    go_ret
    exact BPost.bad (by omega) (fun h => by have := h.1; omega) (Below.refl _ _)
  · go_enter Tryd.func44, Tryd.ntmps44
    go_wp2_with fail
    go_loopw [10] (fun t wr => ∃ i : Nat, i ≤ ds.length ∧ t = .int .i64 i ∧ Hid (∀ j, j < i → budAt ds j) ∧ Hid (Below w.heap.size w wr)) (fun t _ => ds.length - (intOf t).toNat)
    case atStart => exact ⟨0, by omega, rfl, fun j hj => absurd hj (by omega), Below.refl _ _⟩
    case round =>
      obtain ⟨i, hi, rfl, hok, hb⟩ := hrel
      by_cases hlt : i < ds.length
      · have hin := HH.out.below hb.out
        obtain ⟨b, off, hA, hbl, hc⟩ := HR.out.at_ hin hlt (by omega)
        subst hA
        have c0 : wr.cell? ⟨b, off + i * 5, none⟩ = some (.string ds[i].key) := hc 0 (by omega)
        have c1 : wr.cell? ⟨b, off + i * 5 + 1, none⟩ = some (.int .i64 ds[i].cents) := hc 1 (by omega)
        have c2 : wr.cell? ⟨b, off + i * 5 + 2, none⟩ = some (.int .i64 ds[i].first) := hc 2 (by omega)
        have c3 : wr.cell? ⟨b, off + i * 5 + 3, none⟩ = some (.int .i64 ds[i].last) := hc 3 (by omega)
        have c4 : wr.cell? ⟨b, off + i * 5 + 4, none⟩ = some (.bool ds[i].pace) := hc 4 (by omega)
        have hks := HS.out _ (List.getElem_mem hlt)
        have hbad : Hid (¬ budAt ds i → ¬ BudgetsOK ds) := fun h e => h (e.2 i)
        have hat : Hid (isKey ds[i].key = true → anyF (sameKey ds[i].key) (ds.take i) = false → limB ds[i] = true → budAt ds i) := fun h1 h2 h3 h => ⟨h1, h2, h3⟩
        have hno : Hid (budAt ds i → isKey ds[i].key = true ∧ anyF (sameKey ds[i].key) (ds.take i) = false ∧ limB ds[i] = true) := fun h => h hlt
        clear hc
        generalize hd : ds[i] = d at c0 c1 c2 c3 c4 hks hat hno
        have HIN := Lib.hid hin
        clear hin hd
        obtain ⟨H2, hl2, hbx, hin2⟩ := HIN.out.put (.cells #[.string d.key, .int .i64 d.cents, .int .i64 d.first, .int .i64 d.last, .bool d.pace] 59)
        have hb2 := Lib.hid (hb.out.alloc hb.out.size (.cells #[.string d.key, .int .i64 d.cents, .int .i64 d.first, .int .i64 d.last, .bool d.pace] 59))
        have HL2 := Lib.hid hl2
        have HBX := Lib.hid hbx
        have HIN2 := Lib.hid hin2
        have HD : Hid (wr.heap.size = wr.heap.size) := rfl
        clear hl2 hbx hin2
        go_wp2_with fail
        clear c0 c1 c2 c3 c4
        generalize hg : wr.heap.size = g at HBX
        generalize wr.alloc _ = W1 at hb2 HIN2
        refine (isKeyB_any d.key W1 (by omega)).mono ?_
        rintro e W2 ⟨rfl, hbW2⟩
        have HB3 := Lib.hid (hb2.out.trans (hbW2.mono hb2.out.size))
        have HIN3 := Lib.hid (HIN2.out.below hbW2)
        clear hbW2 hb2 HIN2
        generalize hq : isKey d.key = q at hat hno
        cases q with
        | false =>
          have hv := Lib.hid (hbad.out (fun h => by have := (hno.out h).1; cases this))
          clear hq
          go_wp2_with fail
          go_ret
          exact BPost.bad (by omega) hv.out HB3.out
        | true =>
          clear hq
          obtain ⟨x0, x1, x2, x3, x4⟩ := frz5 HIN3.out HBX.out
          have hii : (i : Int) ≤ cap := by omega
          have hti : (ds.take i).length = i := by simp; omega
          have h46 := containsFunc_Budget H2 fB 70 [.pointer (some ⟨g, 0, none⟩)] (sameKey d.key) (ds.take i) (fun W x _ hW => checkBudgets1_any H2 g d x _ HBX.out W hW) (fun _ _ => by kernel_rfl) (some ⟨b, off, none⟩) cap W2 HIN3.out ((HR.out.take i).le HL2.out) (by omega)
          rw [hti] at h46
          have H46 := Lib.hid h46
          clear h46 hti
          go_wp2_with fail
          refine H46.out.mono ?_
          rintro e W3 ⟨rfl, hbW3⟩
          have HB4 := Lib.hid (HB3.out.trans (hbW3.mono HB3.out.size))
          have HIN4 := Lib.hid (HIN3.out.below hbW3)
          clear hbW3 HB3 HIN3 x0 x1 x2 x3 x4 H46
          obtain ⟨x0, x1, x2, x3, x4⟩ := frz5 HIN4.out HBX.out
          generalize anyF (sameKey d.key) (ds.take i) = q at hat hno
          cases q with
          | true =>
            have hv := Lib.hid (hbad.out (fun h => by have := (hno.out h).2.1; cases this))
            go_wp2_with fail
            go_ret
            exact BPost.bad (by omega) hv.out HB4.out
          | false =>
            by_cases hlim : limB d = true
            · have hv := Lib.hid (hat.out trivial rfl hlim)
              obtain ⟨y1, y2, y3, y4, y5⟩ : 0 ≤ d.cents ∧ d.cents ≤ 1000000000000 ∧ 0 ≤ d.first ∧ d.first ≤ d.last ∧ d.last ≤ 3000 := by
                simp [limB] at hlim; omega
              clear hlim hat hno hbad
              skip; (have z1 : (decide (0 ≤ d.cents) && decide (d.cents ≤ 1000000000000)) = true := by (simp; omega)); go_wp2_with fail; refine (offWithin_any _ _ _ _).mono ?_; rintro e w' ⟨rfl, rfl⟩; rw [z1]
              go_wp2_with fail
              go_roundw
              case rel => exact ⟨i + 1, by omega, by go_num, bstep_ok hok.out hv.out, HB4⟩
              case measure => simp [intOf]; omega
            · have hv := Lib.hid (hbad.out (fun h => hlim (hno.out h).2.2))
              have hsp : d.cents < 0 ∨ (0 ≤ d.cents ∧ 1000000000000 < d.cents) ∨ (0 ≤ d.cents ∧ d.cents ≤ 1000000000000 ∧ d.first < 0) ∨ (0 ≤ d.cents ∧ d.cents ≤ 1000000000000 ∧ 0 ≤ d.first ∧ d.last < d.first) ∨ (0 ≤ d.cents ∧ d.cents ≤ 1000000000000 ∧ 0 ≤ d.first ∧ d.first ≤ d.last ∧ 3000 < d.last) := by
                simp [limB] at hlim; omega
              clear hlim hat hno hbad
              rcases hsp with y1 | ⟨y1, y2⟩ | ⟨y1, y2, y3⟩ | ⟨y1, y2, y3, y4⟩ | ⟨y1, y2, y3, y4, y5⟩
              · skip; (have z1 : (decide (0 ≤ d.cents) && decide (d.cents ≤ 1000000000000)) = false := by (simp; omega)); go_wp2_with fail; refine (offWithin_any _ _ _ _).mono ?_; rintro e w' ⟨rfl, rfl⟩; rw [z1]
                go_wp2_with fail
                go_ret
                exact BPost.bad (by omega) hv.out HB4.out
              · skip; (have z1 : (decide (0 ≤ d.cents) && decide (d.cents ≤ 1000000000000)) = false := by (simp; omega)); go_wp2_with fail; refine (offWithin_any _ _ _ _).mono ?_; rintro e w' ⟨rfl, rfl⟩; rw [z1]
                go_wp2_with fail
                go_ret
                exact BPost.bad (by omega) hv.out HB4.out
              · skip; (have z1 : (decide (0 ≤ d.cents) && decide (d.cents ≤ 1000000000000)) = true := by (simp; omega)); go_wp2_with fail; refine (offWithin_any _ _ _ _).mono ?_; rintro e w' ⟨rfl, rfl⟩; rw [z1]
                go_wp2_with fail
                go_ret
                exact BPost.bad (by omega) hv.out HB4.out
              · skip; (have z1 : (decide (0 ≤ d.cents) && decide (d.cents ≤ 1000000000000)) = true := by (simp; omega)); go_wp2_with fail; refine (offWithin_any _ _ _ _).mono ?_; rintro e w' ⟨rfl, rfl⟩; rw [z1]
                go_wp2_with fail
                go_ret
                exact BPost.bad (by omega) hv.out HB4.out
              · skip; (have z1 : (decide (0 ≤ d.cents) && decide (d.cents ≤ 1000000000000)) = true := by (simp; omega)); go_wp2_with fail; refine (offWithin_any _ _ _ _).mono ?_; rintro e w' ⟨rfl, rfl⟩; rw [z1]
                go_wp2_with fail
                go_ret
                exact BPost.bad (by omega) hv.out HB4.out
      · have hie : i = ds.length := by omega
        subst hie
        have hv : Hid (BudgetsOK ds) := ⟨by omega, fun j h => hok.out j h h⟩
        go_wp2_with fail
        go_ret
        exact ⟨0, rfl, ⟨fun _ => hv.out, fun _ => rfl⟩, hb.out⟩

set_option maxHeartbeats 1000000 in
theorem budgetsFault1_any (H : Frz) (b : Nat) (d x : BudgetD) (T : TypeId) (hb : H b = some (.cells #[.string d.key, .int .i64 d.cents, .int .i64 d.first, .int .i64 d.last, .bool d.pace] T (0, 0))) (w : World) (hH : H.In w) :
    Calls Tryd.prog 47 #[.agg #[fB x 0, fB x 1, fB x 2, fB x 3, fB x 4], .pointer (some ⟨b, 0, none⟩)] w fun e w' => e = .returned (.bool (sameKey d.key x)) ∧ Below w.heap.size w w' := by
  obtain ⟨x0, _⟩ := frz5 (hH.alloc (.cells #[.string x.key, .int .i64 x.cents, .int .i64 x.first, .int .i64 x.last, .bool x.pace] 59)) hb
  have hlt : b < w.heap.size := by
    have := hH _ _ hb
    exact (Array.getElem?_eq_some_iff.1 this).1
  have HV : Hid (sameKey d.key x = (x.key.toList == d.key.toList)) := rfl
  generalize sameKey d.key x = r at HV
  clear hH hb
  show Calls Tryd.prog 47 #[.agg #[.string x.key, .int .i64 x.cents, .int .i64 x.first, .int .i64 x.last, .bool x.pace], .pointer (some ⟨b, 0, none⟩)] w _
  generalize hq : (x.key.toList == d.key.toList) = q at HV
  go_enter Tryd.func47, Tryd.ntmps47
  go_wp2_with fail
  go_ret
  exact ⟨ret_bool' HV.out.symm, (Below.refl _ _).alloc (Nat.le_refl _) _⟩

set_option maxHeartbeats 4000000 in
set_option maxRecDepth 100000 in
theorem budgetsFault_any (H : Frz) (A : Option Addr) (cap : Nat) (ds : List BudgetD) (w : World) (hH : H.In w) (hR : Rw H A 5 fB ds) (hsz : ∀ d ∈ ds, d.key.size ≤ 1000000) (hl : ds.length ≤ 1000000) (hcap : ds.length ≤ cap) :
    Calls Tryd.prog 21 #[.slice A ds.length cap] w (BPost ds w) := by
  have HR := Lib.hid hR
  have HH := Lib.hid hH
  have HS := Lib.hid hsz
  clear hR hH hsz
  by_cases hbig : 50 < ds.length
  · go_enter Tryd.func21, Tryd.ntmps21
    go_wp2_with fail
    go_ret
    exact BPost.bad (by omega) (fun h => by have := h.1; omega) (Below.refl _ _)
  · go_enter Tryd.func21, Tryd.ntmps21
    go_wp2_with fail
    go_loopw [10] (fun t wr => ∃ i : Nat, i ≤ ds.length ∧ t = .int .i64 i ∧ Hid (∀ j, j < i → budAt ds j) ∧ Hid (Below w.heap.size w wr)) (fun t _ => ds.length - (intOf t).toNat)
    case atStart => exact ⟨0, by omega, rfl, fun j hj => absurd hj (by omega), Below.refl _ _⟩
    case round =>
      obtain ⟨i, hi, rfl, hok, hb⟩ := hrel
      by_cases hlt : i < ds.length
      · have hin := HH.out.below hb.out
        obtain ⟨b, off, hA, hbl, hc⟩ := HR.out.at_ hin hlt (by omega)
        subst hA
        have c0 : wr.cell? ⟨b, off + i * 5, none⟩ = some (.string ds[i].key) := hc 0 (by omega)
        have c1 : wr.cell? ⟨b, off + i * 5 + 1, none⟩ = some (.int .i64 ds[i].cents) := hc 1 (by omega)
        have c2 : wr.cell? ⟨b, off + i * 5 + 2, none⟩ = some (.int .i64 ds[i].first) := hc 2 (by omega)
        have c3 : wr.cell? ⟨b, off + i * 5 + 3, none⟩ = some (.int .i64 ds[i].last) := hc 3 (by omega)
        have c4 : wr.cell? ⟨b, off + i * 5 + 4, none⟩ = some (.bool ds[i].pace) := hc 4 (by omega)
        have hks := HS.out _ (List.getElem_mem hlt)
        have hbad : Hid (¬ budAt ds i → ¬ BudgetsOK ds) := fun h e => h (e.2 i)
        have hat : Hid (isKey ds[i].key = true → anyF (sameKey ds[i].key) (ds.take i) = false → limB ds[i] = true → budAt ds i) := fun h1 h2 h3 h => ⟨h1, h2, h3⟩
        have hno : Hid (budAt ds i → isKey ds[i].key = true ∧ anyF (sameKey ds[i].key) (ds.take i) = false ∧ limB ds[i] = true) := fun h => h hlt
        clear hc
        generalize hd : ds[i] = d at c0 c1 c2 c3 c4 hks hat hno
        have HIN := Lib.hid hin
        clear hin hd
        obtain ⟨H2, hl2, hbx, hin2⟩ := HIN.out.put (.cells #[.string d.key, .int .i64 d.cents, .int .i64 d.first, .int .i64 d.last, .bool d.pace] 59)
        have hb2 := Lib.hid (hb.out.alloc hb.out.size (.cells #[.string d.key, .int .i64 d.cents, .int .i64 d.first, .int .i64 d.last, .bool d.pace] 59))
        have HL2 := Lib.hid hl2
        have HBX := Lib.hid hbx
        have HIN2 := Lib.hid hin2
        have HD : Hid (wr.heap.size = wr.heap.size) := rfl
        clear hl2 hbx hin2
        go_wp2_with fail
        clear c0 c1 c2 c3 c4
        generalize hg : wr.heap.size = g at HBX
        generalize wr.alloc _ = W1 at hb2 HIN2
        refine (keyOf_any d.key W1 (by omega)).mono ?_
        rintro e W2 ⟨rfl, hbW2⟩
        have HB3 := Lib.hid (hb2.out.trans (hbW2.mono hb2.out.size))
        have HIN3 := Lib.hid (HIN2.out.below hbW2)
        clear hbW2 hb2 HIN2
        generalize hq : isKey d.key = q at hat hno
        cases q with
        | false =>
          have hv := Lib.hid (hbad.out (fun h => by have := (hno.out h).1; cases this))
          clear hq
          go_wp2_with fail
          go_ret
          exact BPost.bad (by omega) hv.out HB3.out
        | true =>
          clear hq
          obtain ⟨x0, x1, x2, x3, x4⟩ := frz5 HIN3.out HBX.out
          have hii : (i : Int) ≤ cap := by omega
          have hti : (ds.take i).length = i := by simp; omega
          have h46 := containsFunc_Budget H2 fB 47 [.pointer (some ⟨g, 0, none⟩)] (sameKey d.key) (ds.take i) (fun W x _ hW => budgetsFault1_any H2 g d x _ HBX.out W hW) (fun _ _ => by kernel_rfl) (some ⟨b, off, none⟩) cap W2 HIN3.out ((HR.out.take i).le HL2.out) (by omega)
          rw [hti] at h46
          have H46 := Lib.hid h46
          clear h46 hti
          go_wp2_with fail
          refine H46.out.mono ?_
          rintro e W3 ⟨rfl, hbW3⟩
          have HB4 := Lib.hid (HB3.out.trans (hbW3.mono HB3.out.size))
          have HIN4 := Lib.hid (HIN3.out.below hbW3)
          clear hbW3 HB3 HIN3 x0 x1 x2 x3 x4 H46
          obtain ⟨x0, x1, x2, x3, x4⟩ := frz5 HIN4.out HBX.out
          generalize anyF (sameKey d.key) (ds.take i) = q at hat hno
          cases q with
          | true =>
            have hv := Lib.hid (hbad.out (fun h => by have := (hno.out h).2.1; cases this))
            go_wp2_with fail
            go_ret
            exact BPost.bad (by omega) hv.out HB4.out
          | false =>
            by_cases hlim : limB d = true
            · have hv := Lib.hid (hat.out trivial rfl hlim)
              obtain ⟨y1, y2, y3, y4, y5⟩ : 0 ≤ d.cents ∧ d.cents ≤ 1000000000000 ∧ 0 ≤ d.first ∧ d.first ≤ d.last ∧ d.last ≤ 3000 := by
                simp [limB] at hlim; omega
              clear hlim hat hno hbad
              skip
              go_wp2_with fail
              go_roundw
              case rel => exact ⟨i + 1, by omega, by go_num, bstep_ok hok.out hv.out, HB4⟩
              case measure => simp [intOf]; omega
            · have hv := Lib.hid (hbad.out (fun h => hlim (hno.out h).2.2))
              have hsp : d.cents < 0 ∨ (0 ≤ d.cents ∧ 1000000000000 < d.cents) ∨ (0 ≤ d.cents ∧ d.cents ≤ 1000000000000 ∧ d.first < 0) ∨ (0 ≤ d.cents ∧ d.cents ≤ 1000000000000 ∧ 0 ≤ d.first ∧ d.last < d.first) ∨ (0 ≤ d.cents ∧ d.cents ≤ 1000000000000 ∧ 0 ≤ d.first ∧ d.first ≤ d.last ∧ 3000 < d.last) := by
                simp [limB] at hlim; omega
              clear hlim hat hno hbad
              rcases hsp with y1 | ⟨y1, y2⟩ | ⟨y1, y2, y3⟩ | ⟨y1, y2, y3, y4⟩ | ⟨y1, y2, y3, y4, y5⟩
              · skip
                go_wp2_with fail
                go_ret
                exact BPost.bad (by omega) hv.out HB4.out
              · skip
                go_wp2_with fail
                go_ret
                exact BPost.bad (by omega) hv.out HB4.out
              · skip
                go_wp2_with fail
                go_ret
                exact BPost.bad (by omega) hv.out HB4.out
              · skip
                go_wp2_with fail
                go_ret
                exact BPost.bad (by omega) hv.out HB4.out
              · skip
                go_wp2_with fail
                go_ret
                exact BPost.bad (by omega) hv.out HB4.out
      · have hie : i = ds.length := by omega
        subst hie
        have hv : Hid (BudgetsOK ds) := ⟨by omega, fun j h => hok.out j h h⟩
        go_wp2_with fail
        go_ret
        exact ⟨0, rfl, ⟨fun _ => hv.out, fun _ => rfl⟩, hb.out⟩
end Go.Proofs.YtecbejmeejepmaaDoor
