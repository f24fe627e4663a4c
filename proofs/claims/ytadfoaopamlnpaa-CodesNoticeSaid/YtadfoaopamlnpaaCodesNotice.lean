/- The law CodesNotice returns true, whatever the numbers of its list. -/
import Derived.Test.YtadfoaopamlnpaaOffRead
import Derived.Test.YtadfoaopamlnpaaBody
import Derived.Deep.Cut
namespace Go.Proofs.Ytadfoaopamlnpaa
set_option linter.unusedVariables false
open Go.RowKit

theorem join_sep (xs : List ByteArray) (h : xs.length ≤ 25) (hl : ((xs.map (·.data.toList)).flatten).length ≤ 24) : (Lib.join (xs.map (·.data.toList)) [45]).length ≤ 100 := by
  have := join_len (xs.map (·.data.toList)) [45]
  simp only [List.length_map, List.length_cons, List.length_nil] at this
  omega
theorem tail_filter (l : List (List UInt8)) (h : Hb.areSigns l.flatten = true) : (Lib.joinTail [45] l).filter nosep = l.flatten := by
  induction l with
  | nil => rfl
  | cons a l ih =>
    rw [List.flatten_cons, Hb.areSigns_append] at h
    simp at h
    have ha : a.filter nosep = a := List.filter_eq_self.2 fun c hc => nosep_sign (Hb.areSigns_mem h.1 hc)
    have := ih h.2
    simp only [Lib.joinTail, List.map_cons, List.flatten_cons, List.filter_append] at this ⊢
    rw [this, ha]
    rfl
theorem join_filter (xs : List ByteArray) (h : Hb.areSigns ((xs.map (·.data.toList)).flatten) = true) : (Lib.join (xs.map (·.data.toList)) [45]).filter nosep = (xs.map (·.data.toList)).flatten := by
  generalize xs.map (·.data.toList) = l at h ⊢
  cases l with
  | nil => rfl
  | cons a l =>
    rw [List.flatten_cons, Hb.areSigns_append] at h
    simp at h
    have ha : a.filter nosep = a := List.filter_eq_self.2 fun c hc => nosep_sign (Hb.areSigns_mem h.1 hc)
    rw [Lib.join_cons, List.filter_append, ha, tail_filter l h.2, List.flatten_cons]

/-- A row of bytes. -/
def Bytes (w : World) (g : Nat) (l : List UInt8) : Prop := ∀ j (h : j < l.length), w.cell? ⟨g, j, none⟩ = some (vb l[j])
theorem Bytes.set {w : World} {g : Nat} {l : List UInt8} (h : Bytes w g l) {i : Nat} (hi : i < l.length) (x : UInt8) : Bytes (w.setCell ⟨g, i, none⟩ (vb x)) g (l.set i x) := by
  intro j hj
  rw [List.length_set] at hj
  by_cases e : i = j
  · subst e
    rw [World.cell?_setCell_same w _ _ (h i hi)]
    simp
  · rw [World.cell?_setCell_other w _ _ _ (fun c => e (by injection c)), h j hj, List.getElem_set_ne e]
theorem Bytes.conv {w : World} {g : Nat} {l : List UInt8} (h : Bytes w g l) (n cap : Nat) (hn : n = l.length) :
    (convert 39 9 (.slice (some ⟨g, 0, none⟩) n cap)).run Try.prog w = .ok (.string ⟨l.toArray⟩) w := by
  subst hn
  refine run_convert_bytes_back w _ _ 5 ⟨g, 0, none⟩ cap l Try.underlying39 Try.underlying5 Try.underlying9 fun j hj => ?_
  rw [Addr.add_lit, Nat.zero_add]
  exact h j hj
/-- '[]byte(c)': a new row of the bytes. -/
theorem bytes_new (w : World) (c : ByteArray) : ∃ (cap : Nat) (w' : World), (convert 9 39 (.string c)).run Try.prog w = .ok (.slice (some ⟨w.heap.size, 0, none⟩) c.size cap) w' ∧
    Bytes w' w.heap.size c.data.toList ∧ (∀ j, j < c.size → w'.frozen? ⟨w.heap.size, j, none⟩ = false) ∧ Below w.heap.size w w' ∧ w'.heap.size = w.heap.size + 1 := by
  refine ⟨_, _, run_bytes_of_string w _ _ 5 c Try.underlying9 Try.underlying39 Try.underlying5, ?_, ?_, ?_, ?_⟩
  · intro j hj
    have hj' : j < c.data.size := by simpa using hj
    show (World.alloc w.drew _).cell? ⟨w.drew.heap.size, j, none⟩ = _
    rw [World.cell?_alloc_mark]
    simp only [bytesRow]
    rw [Array.getElem?_append_left (by simpa using hj'), Array.getElem?_map, Array.getElem?_eq_getElem hj']
    simp [vb]
  · intro j hj
    have : (World.alloc w.drew (.cells (bytesRow c (grownCap w c.size 0 5)) 5 ((bytesRow c (grownCap w c.size 0 5)).size, (bytesRow c (grownCap w c.size 0 5)).size + 1))).heap[w.heap.size]? = some _ := heap_at (w := w.drew) rfl
    simp only [World.frozen?, this]
    have hs : c.size ≤ (bytesRow c (grownCap w c.size 0 5)).size := by
      simp [bytesRow]
    simp
    omega
  · exact ((Below.refl _ _).drew).alloc (Nat.le_refl _) _
  · simp

theorem sign_at : ∀ n : Fin 31, 0 ≤ Hb.val ((⟨#[48, 49, 50, 51, 52, 53, 54, 55, 56, 57, 65, 66, 67, 68, 69, 70, 71, 72, 74, 75, 77, 78, 80, 81, 82, 84, 85, 86, 87, 88, 89]⟩ : ByteArray)[n.val]'(show n.val < 31 from n.isLt)) := by decide +kernel

set_option maxHeartbeats 2000000 in
set_option maxRecDepth 100000 in
theorem codesNotice_walk (a0 : Option Addr) (len0 cap0 : Nat) (z0 : List Int) (w : World) (w0 : IsRow .i64 w a0 len0 cap0 z0) :
    Calls Try.prog 4 #[.slice a0 len0 cap0] w fun e w' => e = .returned (.bool true) ∧ Below w.heap.size w w' := by
  have L := Lw.new w0
  go_enter Try.func4, Try.ntmps4
  go_wp2_with fail
  refine (L.codeBody (by omega)).mono ?_
  clear L
  rintro e W1 ⟨s, rfl, hs, L, -⟩
  go_wp2_with fail
  refine (Seal_any s _ (by omega)).mono ?_
  rintro e W2 ⟨hp, rfl⟩
  rcases hp with ⟨-, n, hn, rfl⟩ | ⟨s1, s2, s3, k, hk, hk1, rfl⟩
  · have hn1 : (n != 0) = true := by simpa using hn
    clear hn
    go_wp2_with fail
    refine (offers_any _).mono ?_
    rintro e w' ⟨rfl, rfl⟩
    go_wp2_with fail
    go_ret
    exact ⟨rfl, L.bel⟩
  · obtain ⟨c, hc⟩ : ∃ c, c = snoc s k := ⟨_, rfl⟩
    have c1 : 4 ≤ c.size := by rw [hc, snoc_size]; omega
    have c2 : c.size ≤ 24 := by rw [hc, snoc_size]; omega
    have c3 : Hb.areSigns c.data.toList = true := by rw [hc, snoc_list, Hb.areSigns_append, s3, sign_is ⟨k, hk⟩]; rfl
    have c4 : Hb.csum c.data.toList 0 % 31 = 0 := by rw [hc, snoc_list]; exact hk1
    rw [← hc]
    have C3 := Lib.hid c3
    have C4 := Lib.hid c4
    have CE := Lib.hid (codeErr_ok c1 c2 c3 c4)
    clear hc s1 s2 s3 hk1 hk c3 c4
    have ce : ((c.size : Int) == 0) = false := beq_eq_false_iff_ne.2 (by omega)
    go_wp2_with fail
    refine (L.next' _ (by omega) (by omega) (by omega)).mono ?_
    clear L
    rintro e W3 ⟨i, rfl, i0, i1, L, -, -⟩
    obtain ⟨i, rfl⟩ := Int.eq_ofNat_of_zero_le i0
    go_wp2_with fail
    refine (L.next' _ (by omega) (by omega) (by omega)).mono ?_
    clear L
    rintro e W4 ⟨j, rfl, j0, j1, L, -, -⟩
    obtain ⟨j, rfl⟩ := Int.eq_ofNat_of_zero_le j0
    have hi : i < c.size := by omega
    have hj : j < c.size := by omega
    obtain ⟨cap, W5, hconv, hB, hfz, hbel, hsz⟩ := bytes_new W4 c
    have L5 := L.call hbel
    have hlt := L.lt
    have ci := hB i (by simpa using hi)
    have cj := hB j (by simpa using hj)
    have fi := hfz i hi
    have fj := hfz j hj
    have HB := Lib.hid hB
    have HBL := Lib.hid hbel
    have HSZ := Lib.hid hsz
    clear hB hfz hbel hsz L
    have cs := cell?_setCell_some (w := W5) (p := ⟨W4.heap.size, i, none⟩) (x := vb c.data.toList[j]) (q := ⟨W4.heap.size, j, none⟩) (v := vb c.data.toList[j]) cj
    obtain ⟨v', hv'⟩ := cs
    unfold vb at ci cj hv'
    generalize hx : c.data.toList[i] = xi at ci cj hv'
    generalize hy : c.data.toList[j] = xj at ci cj hv'
    have HX := Lib.hid hx
    have HY := Lib.hid hy
    clear hx hy
    go_wp2_with fail
    go_region
    generalize hW : World.drew (World.setCell (World.setCell W5 _ _) _ _) = W6
    have HW := Lib.hid hW
    clear hW
    have hli : i < c.data.toList.length := by simpa using hi
    have hlj : j < c.data.toList.length := by simpa using hj
    have B6 : Bytes W6 W4.heap.size ((c.data.toList.set i xj).set j xi) := by
      rw [← HW.out]
      exact (HB.out.set hli xj).set (by rw [List.length_set]; exact hlj) xi
    have L6 : Lw w w.heap.size (0 + 100 + 1 + 1) Frz.empty W6 := by
      rw [← HW.out]
      exact ((L5.setCell (p := ⟨W4.heap.size, i, none⟩) hlt rfl _).setCell (p := ⟨W4.heap.size, j, none⟩) hlt rfl _).drewN 1
    have hcv := B6.conv c.size cap (by simp)
    obtain ⟨b1, hb1⟩ : ∃ b1 : ByteArray, b1 = ⟨((c.data.toList.set i xj).set j xi).toArray⟩ := ⟨_, rfl⟩
    rw [← hb1] at hcv
    have hbl : b1.data.toList = (c.data.toList.set i xj).set j xi := by rw [hb1]
    have hbs : b1.size = c.size := by
      have : b1.data.toList.length = c.data.toList.length := by rw [hbl]; simp
      simpa using this
    have hq : Hid (b1 ≠ c → codeErr b1 = 15) := by
      intro hne
      have hne' : (c.data.toList.set i xj).set j xi ≠ c.data.toList := by rw [← hbl]; exact fun e => hne (bytes_ext e)
      have e1 := HX.out
      have e2 := HY.out
      refine codeErr_sum (by omega) (by omega) ?_ ?_
      · rw [hbl]
        exact Hb.areSigns_set (Hb.areSigns_set C3.out (by rw [← e2]; exact Hb.areSigns_mem C3.out (List.getElem_mem hlj))) (by rw [← e1]; exact Hb.areSigns_mem C3.out (List.getElem_mem hli))
      · rw [hbl]
        subst e1 e2
        exact Hb.csum_swapped (by simpa using c2) hli hlj C3.out C4.out hne'
    clear hb1 hbl HW HB HX HY B6 L5 ci cj fi fj hv' hconv HBL HSZ hli hlj hlt
    have tok : ∀ x : ByteArray, (x.toList == c.toList) = true ∨ (x ≠ c ∧ (x.toList == c.toList) = false) := by
      intro x
      by_cases e : x = c
      · exact .inl (by rw [e]; simp)
      · refine .inr ⟨e, ?_⟩
        have : x.toList ≠ c.toList := fun h => e (bytes_ext (by rw [ByteArray.toList_eq, ByteArray.toList_eq] at h; exact h))
        exact beq_eq_false_iff_ne.2 this
    have TOK := Lib.hid tok
    clear tok
    obtain ⟨cap2, W7, hconv, hB, hfz, hbel, hsz⟩ := bytes_new W6 c
    have L7 := L6.call hbel
    have hlt := L6.lt
    have fi := hfz i hi
    have HB := Lib.hid hB
    have HZ := Lib.hid hsz
    clear hB hfz hbel hsz
    rcases TOK.out b1 with hq1 | ⟨hne, hq1⟩
    case' inl => go_wp2_with fail
    case' inr =>
      have h15 := hq.out hne
      clear hne
      go_wp2_with fail
      refine (checkCode_any b1 _ (by omega)).mono ?_
      rintro e w' ⟨rfl, rfl⟩
      rw [h15]
      clear h15
      go_wp2_with fail
    all_goals
      clear hq hcv
      refine (L7.next' 31 (by omega) (by omega) (by omega)).mono ?_
      rintro e W8 ⟨x, rfl, x0, x1, L8, g8, z8⟩
      obtain ⟨x, rfl⟩ := Int.eq_ofNat_of_zero_le x0
      have h8 := g8.block W6.heap.size (by rw [HZ.out]; omega) (fun e => by injection e with e; omega)
      have hc8 : ∀ o, W8.cell? ⟨W6.heap.size, o, none⟩ = W7.cell? ⟨W6.heap.size, o, none⟩ := fun o => World.cell?_of_block h8
      have hf8 : W8.frozen? ⟨W6.heap.size, i, none⟩ = false := (World.frozen?_of_block (a := ⟨W6.heap.size, i, none⟩) h8).trans fi
      have B8 : Bytes W8 W6.heap.size c.data.toList := fun o ho => (hc8 o).trans (HB.out o ho)
      have ci := B8 i (by simpa using hi)
      have HB8 := Lib.hid B8
      unfold vb at ci
      clear h8 hc8 B8 g8 z8 HB fi
      go_upto_region 15 with (fail)
      generalize hW : World.setCell W8 _ (Value.int IntKind.u8 _) = W9
      obtain ⟨y, hy, HW⟩ : ∃ y : UInt8, 0 ≤ Hb.val y ∧ Hid (W9 = W8.setCell ⟨W6.heap.size, i, none⟩ (vb y)) := ⟨_, sign_at ⟨x, by omega⟩, hW.symm⟩
      clear hW
      have hli : i < c.data.toList.length := by simpa using hi
      have B9 : Bytes W9 W6.heap.size (c.data.toList.set i y) := by
        rw [HW.out]
        exact HB8.out.set hli y
      have L9 : Lw w w.heap.size (0 + 100 + 1 + 1 + 1) Frz.empty W9 := by
        rw [HW.out]
        exact L8.setCell (p := ⟨W6.heap.size, i, none⟩) hlt rfl _
      have hcv := B9.conv c.size cap2 (by simp)
      obtain ⟨d1, hd1⟩ : ∃ d1 : ByteArray, d1 = ⟨(c.data.toList.set i y).toArray⟩ := ⟨_, rfl⟩
      rw [← hd1] at hcv
      have hdl : d1.data.toList = c.data.toList.set i y := by rw [hd1]
      have hds : d1.size = c.size := by
        have : d1.data.toList.length = c.data.toList.length := by rw [hdl]; simp
        simpa using this
      have hq : Hid (d1 ≠ c → codeErr d1 = 15) := by
        intro hne
        have hne' : c.data.toList.set i y ≠ c.data.toList := by rw [← hdl]; exact fun e => hne (bytes_ext e)
        refine codeErr_sum (by omega) (by omega) ?_ ?_
        · rw [hdl]
          exact Hb.areSigns_set C3.out hy
        · rw [hdl]
          exact Hb.csum_changed (by simpa using c2) hli C3.out hy C4.out hne'
      clear hd1 hdl HW HB8 B9 L8 ci hf8 hconv hli L7 L6
      rcases TOK.out d1 with hq2 | ⟨hne, hq2⟩
      case' inl => go_wp2_with fail
      case' inr =>
        have h15 := hq.out hne
        clear hne
        go_wp2_with fail
        refine (checkCode_any d1 _ (by omega)).mono ?_
        rintro e w' ⟨rfl, rfl⟩
        rw [h15]
        clear h15
        go_wp2_with fail
      all_goals
        clear hq hcv
        refine (writeCode_any c _ c1 c2 CE.out).mono ?_
        rintro e W10 ⟨⟨xs, hx1, hx2, rfl⟩, hb10⟩
        have L10 := L9.call hb10
        have J1 := join_sep xs hx1 (by rw [hx2]; simpa using c2)
        have J2 := Lib.hid (join_filter xs (by rw [hx2]; exact C3.out))
        generalize hJ : Lib.join (xs.map (·.data.toList)) [45] = J at J1 J2
        rw [hx2] at J2
        have J3 : Hid (∀ a ∈ J, nosep a = true → 0 ≤ Hb.val a) := by
          intro a ha hn
          have : a ∈ J.filter nosep := List.mem_filter.2 ⟨ha, hn⟩
          rw [J2.out] at this
          exact Hb.areSigns_mem C3.out this
        clear hJ hb10 hx1 hx2 L9
        go_wp2_with fail
        have hJ1 : codeErr ⟨(J.filter nosep).toArray⟩ = 0 := by rw [J2.out]; exact CE.out
        refine (readCode_any ⟨J.toArray⟩ _ (by show J.toArray.size ≤ 100; simpa using J1) J3.out hJ1).mono ?_
        clear hJ1
        rintro e W11 ⟨rfl, hb11⟩
        have L11 := L10.call hb11
        have hJc : (⟨((ByteArray.mk J.toArray).data.toList.filter nosep).toArray⟩ : ByteArray) = c := by
          apply bytes_ext
          show (J.filter nosep) = _
          exact J2.out
        rw [hJc]
        clear hJc hb11 L10
        go_wp2_with fail
        refine (offers_any _).mono ?_
        rintro e w' ⟨rfl, rfl⟩
        go_wp2_with fail
        refine (checkCode_any c _ (by omega)).mono ?_
        rintro e w' ⟨rfl, rfl⟩
        rw [CE.out]
        go_wp2_with fail
        go_ret
        exact ⟨rfl, L11.bel⟩
end Go.Proofs.Ytadfoaopamlnpaa
