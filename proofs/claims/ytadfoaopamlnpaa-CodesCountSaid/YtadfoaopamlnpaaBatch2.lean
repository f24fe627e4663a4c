/- Batches of codes in package offer: what Batch makes. -/
import Derived.Test.YtadfoaopamlnpaaBatch
import Derived.Test.YtadfoaopamlnpaaOffRead
import Derived.Deep.Cut
namespace Go.Proofs.Ytadfoaopamlnpaa
set_option linter.unusedVariables false
open Go.RowKit

/-- A block of bytes that is known whole. -/
def Blk (w : World) (g : Nat) (l : List UInt8) : Prop := w.heap[g]? = some (.cells (l.map vb).toArray 5 (0, 0))
theorem Blk.cell {w : World} {g : Nat} {l : List UInt8} (h : Blk w g l) (i : Nat) (hi : i < l.length) : w.cell? ⟨g, i, none⟩ = some (vb l[i]) := by
  unfold Blk at h
  simp [World.cell?, h, hi]
theorem Blk.frozen {w : World} {g : Nat} {l : List UInt8} (h : Blk w g l) (i : Nat) : w.frozen? ⟨g, i, none⟩ = false := by
  unfold Blk at h
  simp [World.frozen?, h]
theorem Blk.set_ {w : World} {g : Nat} {l : List UInt8} (h : Blk w g l) (i : Nat) (x : UInt8) : Blk (w.setCell ⟨g, i, none⟩ (vb x)) g (l.set i x) := by
  unfold Blk at h ⊢
  simp [World.setCell, Array.getElem?_modify, h, List.map_set]
theorem Blk.drewN {w : World} {g : Nat} {l : List UInt8} (h : Blk w g l) (n : Nat) : Blk (w.drewN n) g l := h
theorem Blk.conv {w : World} {g : Nat} {l : List UInt8} (h : Blk w g l) (n cap : Nat) (hn : n = l.length) :
    (convert 39 9 (.slice (some ⟨g, 0, none⟩) n cap)).run Try.prog w = .ok (.string ⟨l.toArray⟩) w := by
  subst hn
  refine run_convert_bytes_back w _ _ 5 ⟨g, 0, none⟩ cap l Try.underlying39 Try.underlying5 Try.underlying9 fun j hj => ?_
  rw [Addr.add_lit, Nat.zero_add]
  exact h.cell j hj

theorem grown_drew_left {w w' : World} {n : Nat} {row : Option Nat} (h : (w.drewN n).grownBy w' row) : w.grownBy w' row := ⟨h.os, h.tape, h.output, h.size, h.block⟩
theorem blk_made {w : World} {B g c : Nat} (h : w.ownsRow B 5 1 (.slice (some ⟨g, 0, none⟩) c c) c (madeCells #[.int .u8 0] (c * 1)).toList) : Blk w g (List.replicate c 0) := by
  rcases h.2 with ⟨h0, _⟩ | ⟨g', cap, cur, hv, _, hh, hle, _, hs, ht⟩
  · cases h0
  · injection hv with hv1 hv2 hv3
    injection hv1 with hv1
    injection hv1 with hv1
    subst hv1 hv3
    unfold Blk
    rw [hh]
    have : cur.toList = (List.replicate c (0 : UInt8)).map vb := by
      rw [← List.take_of_length_le (l := cur.toList) (i := c * 1) (by simp; omega), ht]
      rw [toList_madeCells_one]
      simp [vb]
    rw [← this]

theorem own_setCell {w : World} {B : Nat} {e : TypeId} {size n : Nat} {v : Value} {xs : List Value} (h : w.ownsRow B e size v n xs) {p : Addr} (hp : v.ownBlock ≠ some p.block) (u : Value) : (w.setCell p u).ownsRow B e size v n xs := by
  obtain ⟨h1, h2⟩ := h
  refine ⟨h1, ?_⟩
  rcases h2 with h2 | ⟨g, cap, cur, rfl, hg, hh, r⟩
  · exact Or.inl h2
  · exact Or.inr ⟨g, cap, cur, rfl, hg, by rw [Below.heap_setCell _ _ _ _ (fun c => hp (by rw [← c]; rfl))]; exact hh, r⟩
theorem sign_byte : ∀ n : Fin 31, ((⟨#[48, 49, 50, 51, 52, 53, 54, 55, 56, 57, 65, 66, 67, 68, 69, 70, 71, 72, 74, 75, 77, 78, 80, 81, 82, 84, 85, 86, 87, 88, 89]⟩ : ByteArray)[n.val]'(show n.val < 31 from n.isLt)) = Hb.sg n.val := by decide +kernel
theorem set_rep (m : Nat) (l : List UInt8) (y : UInt8) : (List.replicate (m + 1) 0 ++ l).set m y = List.replicate m 0 ++ y :: l := by
  rw [List.replicate_succ', List.append_assoc, List.set_append_right _ _ (by simp)]
  simp

set_option maxHeartbeats 2000000 in
set_option maxRecDepth 100000 in
theorem batch_any {c all N : Nat} (C : Hb.Cnt c all N) (key fr many : Nat) (w : World) (hk : key < all) (hf : fr < 29000) (hm : many ≤ 12) :
    Calls Try.prog 20 #[.string ⟨#[88]⟩, .int .i64 c, .int .i64 key, .int .i64 fr, .int .i64 many] w fun e w' =>
      ∃ (v : Value) (xs : List ByteArray), e = .returned (.tuple #[v, .int .i64 0]) ∧ xs.length = many ∧ (∀ i (h : i < xs.length), IsCode c all key (fr + i) xs[i]) ∧ w'.ownsRow w.heap.size 9 1 v many (xs.map Value.string) ∧ Below w.heap.size w w' := by
  obtain ⟨i0, hi0, hz0, hz1, hz2⟩ := info_parts infoString
  obtain ⟨j0, hj0, hy0, hy1, hy2⟩ := info_parts infoByte
  have c1 := C.lo
  have c2 := C.hi
  have c3 := C.sm
  have c4 := C.big
  have d1 : (decide ((0 : Int) ≤ (fr : Int)) && decide ((fr : Int) ≤ (all : Int) - 1)) = true := by simp; omega
  have d2 : (decide ((0 : Int) ≤ (many : Int)) && decide ((many : Int) ≤ 1000)) = true := by simp; omega
  have d3 : decide ((all : Int) < (fr : Int) + many) = false := by simp; omega
  go_enter Try.func20, Try.ntmps20
  go_wp2_with fail
  refine (checkBatch_any C key _ hk).mono ?_
  rintro e w' ⟨rfl, rfl⟩
  go_wp2_with fail
  refine (power_any c _ c2).mono ?_
  rintro e w' ⟨rfl, rfl⟩
  rw [C.pow]
  go_wp2_with fail
  refine (owithin_any _ _ _ _).mono ?_
  rintro e w' ⟨rfl, rfl⟩
  rw [d1]
  go_wp2_with fail
  refine (owithin_any _ _ _ _).mono ?_
  rintro e w' ⟨rfl, rfl⟩
  rw [d2]
  go_wp2_with fail
  go_loopw [14, 15] (fun v t wr => ∃ xs : List ByteArray, xs.length ≤ many ∧ t = .int .i64 ((fr : Int) + xs.length) ∧ Hid (∀ i (h : i < xs.length), IsCode c all key (fr + i) xs[i]) ∧ wr.ownsRow w.heap.size 9 1 v xs.length (xs.map Value.string) ∧ Below w.heap.size w wr)
    (fun _ t _ => fr + many - (intOf t).toNat)
  case atStart => exact ⟨[], by simp, by simp, fun i h => by simp at h, World.ownsRow_nil _ _ _ _, Below.refl _ _⟩
  case round =>
    obtain ⟨xs, hx, rfl, hco, hown, hb⟩ := hrel
    by_cases hlt : xs.length < many
    · obtain ⟨n, hn⟩ : ∃ n, n = fr + xs.length := ⟨_, rfl⟩
      go_wp2_with fail
      rw [show ((fr : Int) + (xs.length : Int)) = ((n : Nat) : Int) from by omega]
      refine (times_any n 7919 all _ (by omega) (by omega) (by omega) (by omega)).mono ?_
      rintro e w1 ⟨rfl, q1, rfl⟩
      have HN := Lib.hid hn
      have ht := Nat.mod_lt (n * 7919) (show all > 0 by omega)
      have hbv := Lib.hid (show Hb.bv all key n = (n * 7919 % all + key) % all from rfl)
      generalize n * 7919 % all = t at ht hbv ⊢
      have hn1 : n ≤ 30000 := by omega
      clear hn
      go_wp2_with (first | (at_make; refine wpList_make_full _ rfl _ _ 39 rfl wr.heap.size 5 j0 (.int .u8 0) 1 Try.underlying39 hj0 hy0 hy1 _ _ _ _ c rfl rfl rfl rfl (by rw [hy2]; omega) (by simp only [maxLen]; omega) (Nat.le_refl _) ?_; intro w2 hown2 hgrow2))
      have hB := blk_made hown2
      have hwr := (Below.refl _ wr).grown (grown_drew_left hgrow2) (Nat.le_refl _) (fun k hk => by cases hk)
      have hownO := hown
      have hown3 := hown.kept (grown_drew_left hgrow2) (by cases hv : u14.ownBlock <;> simp)
      obtain ⟨V, hV⟩ : ∃ V, V = Hb.bv all key n := ⟨_, rfl⟩
      have HV := Lib.hid hV
      have hVlt : V < all := by rw [hV]; exact Hb.bv_lt (by omega)
      rw [show (((t : Int) + key) % all) = ((V : Nat) : Int) from by rw [hV, hbv.out]; simp]
      have hsz2 := hgrow2.size
      clear hown2 hgrow2 hV hbv hown
      obtain ⟨wo, rfl⟩ : ∃ wo : World, wo = wr := ⟨_, rfl⟩
      go_loopw [16, 18] (fun o s wi => ∃ j : Nat, j ≤ c ∧ s = .int .i64 ((c : Int) - 1 - j) ∧ o = .int .i64 ((V / 31 ^ j : Nat) : Int) ∧ Blk wi wo.heap.size (List.replicate (c - j) 0 ++ Hb.low j V) ∧ wi.ownsRow w.heap.size 9 1 u14 xs.length (xs.map Value.string) ∧ Below wo.heap.size wo wi)
        (fun _ s _ => (intOf s + 1).toNat)
      case atStart => exact ⟨0, by omega, by simp, by simp, by simpa [Hb.low] using hB, hown3, hwr⟩
      case round =>
        obtain ⟨j, hj, rfl, rfl, hBj, hownj, hbj⟩ := hrel
        have hd : V / 31 ^ j ≤ V := Nat.div_le_self _ _
        have hnx := Lib.hid (show V / 31 ^ (j + 1) = V / 31 ^ j / 31 by rw [Nat.pow_succ, Nat.div_div_eq_div_mul])
        have hlow := Lib.hid (show Hb.low (j + 1) V = Hb.sg ((V / 31 ^ j) % 31) :: Hb.low j V from rfl)
        by_cases hlj : j < c
        · have hcell := hBj.cell (c - 1 - j) (by simp [Hb.low_length]; omega)
          have hfz := hBj.frozen (c - 1 - j)
          generalize V / 31 ^ j = vj at hd hnx hlow ⊢
          have hm31 : vj % 31 < 31 := Nat.mod_lt _ (by omega)
          have ht1 : ((c : Int) - 1 - j).toNat = c - 1 - j := by omega
          go_upto_region 17 with (fail)
          generalize hW : World.setCell wr _ (Value.int IntKind.u8 _) = W'
          have HW : Hid (W' = wr.setCell ⟨wo.heap.size, c - 1 - j, none⟩ (vb (Hb.sg (vj % 31)))) := by
            show W' = _
            rw [← hW, ← sign_byte ⟨vj % 31, hm31⟩]
            rfl
          clear hW
          have hB' : Blk W' wo.heap.size (List.replicate (c - (j + 1)) 0 ++ Hb.low (j + 1) V) := by
            rw [HW.out, hlow.out, ← set_rep]
            have := hBj.set_ (c - 1 - j) (Hb.sg (vj % 31))
            rw [show c - (j + 1) = c - 1 - j from by omega]
            rw [show c - j = c - 1 - j + 1 from by omega] at this
            exact this
          have hown' : W'.ownsRow w.heap.size 9 1 u14 xs.length (xs.map Value.string) := by
            rw [HW.out]
            exact own_setCell hownj (by
              intro e
              exact absurd (hownO.lt _ e).2 (Nat.lt_irrefl _)) _
          have hb' : Below wo.heap.size wo W' := by
            rw [HW.out]
            exact hbj.setCell (Nat.le_refl _) _
          clear HW hBj hownj hbj hcell hfz
          go_wp2_with fail
          go_roundw
          case rel => exact ⟨j + 1, by omega, by go_num, by rw [hnx.out]; go_num, hB', hown', hb'⟩
          case measure => simp [intOf]; omega
        · have hjc : j = c := by omega
          subst hjc
          rw [Nat.sub_self, List.replicate_zero, List.nil_append] at hBj
          have hcv := hBj.conv j j (by rw [Hb.low_length])
          have hsg := Hb.low_signs j V
          have hll := Hb.low_length j V
          have HL := Lib.hid (show Hb.low j V = Hb.low j (Hb.bv all key n) by rw [HV.out])
          generalize Hb.low j V = lw at hcv hsg hll HL hBj
          have hsz : (ByteArray.mk lw.toArray).size = j := by show lw.toArray.size = j; simpa using hll
          have HSG := Lib.hid hsg
          have HLL := Lib.hid hll
          clear hnx hlow hd hsg hll
          go_wp2_with fail
          obtain ⟨bd, hbd⟩ : ∃ bd : ByteArray, bd = ⟨(88 :: lw).toArray⟩ := ⟨_, rfl⟩
          rw [show (ByteArray.mk #[88] ++ ByteArray.mk lw.toArray) = bd from by rw [hbd]; apply bytes_ext; rw [ByteArray.data_append]; simp]
          have hbl : bd.data.toList = 88 :: lw := by rw [hbd]
          have hbz : bd.size ≤ 23 := by
            have : bd.data.toList.length = j + 1 := by rw [hbl, List.length_cons, HLL.out]
            have e : bd.data.toList.length = bd.size := by simp
            omega
          have hbs : Hb.areSigns bd.data.toList = true := by
            rw [hbl, show (88 :: lw) = [88] ++ lw from rfl, Hb.areSigns_append, HSG.out]; decide +kernel
          refine (seal_any bd _ hbz hbs).mono ?_
          rintro e w3 ⟨⟨k, hk31, hk0, rfl⟩, rfl⟩
          have hcode : Hid (IsCode j all key n (snoc bd k)) := ⟨k, hk31, by rw [hbd, HL.out], by rw [hbl, HL.out] at hk0; exact hk0⟩
          generalize snoc bd k = cd at hcode ⊢
          have hcs := hbj.size
          have hbw : Below w.heap.size w wr := hb.trans (hbj.mono hb.size)
          clear hbl hbz hbs hk0 hbd HL hcv hsz HSG hBj
          go_wp2_with (first | (at_builtin; refine wpList_append1 rfl _ _ 42 rfl w.heap.size 9 i0 (.string ⟨#[]⟩) 1 16 Try.underlying42 hi0 hz0 hz1 hz2 rfl (by decide) _ _ _ rfl hownj #[.string cd] 9 rfl rfl (by simp [Value.oneCell']) (by omega) (by omega) hbw.size ?_; intro v' w4 hown4 hg4 hb4))
          go_roundw
          case rel =>
            refine ⟨xs ++ [cd], by simp; omega, by rw [HN.out]; simp; omega, ?_, by simpa using hown4, hbw.trans hb4⟩
            intro i hi
            by_cases hil : i < xs.length
            · rw [List.getElem_append_left hil]
              exact hco.out i hil
            · have e : i = xs.length := by simp at hi; omega
              subst e
              simp only [List.getElem_append_right (Nat.le_refl _), Nat.sub_self, List.getElem_cons_zero]
              rw [← HN.out]
              exact hcode.out
          case measure => have := HN.out; simp [intOf]; omega
    · have hxm : xs.length = many := by omega
      rw [hxm] at hown
      clear hxm
      go_wp2_with fail
      go_ret2
      exact ⟨u14, xs, rfl, by omega, hco.out, hown, hb⟩
end Go.Proofs.Ytadfoaopamlnpaa
