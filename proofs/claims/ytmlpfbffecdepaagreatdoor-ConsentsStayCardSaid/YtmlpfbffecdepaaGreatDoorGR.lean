/- Texts of this claim, put together: TextP, TextQ, Build, Text, GlobT. -/
import Derived.Test.YtmlpfbffecdepaaGreatDoorGB
import Derived.Test.YtmlpfbffecdepaaGreatDoorGE
import Derived.Lib.ItoaNum
import Derived.Test.YtmlpfbffecdepaaGreatDoorShelfI
import Derived.Test.YtmlpfbffecdepaaGreatDoorGA
import Derived.Test.YtmlpfbffecdepaaGreatDoorShelf
import Derived.Shelf.Strings.BuilderK
import Derived.Test.YtmlpfbffecdepaaGreatDoorGH
/- The text of a policy, plain. -/
namespace Go.Proofs.YtmlpfbffecdepaaGreatDoor
set_option linter.unusedVariables false
open Go.RowKit
def chL (n : Int) : List UInt8 := if n = 1 then [109, 97, 105, 108] else if n = 2 then [116, 101, 120, 116] else if n = 3 then [112, 117, 115, 104] else [112, 111, 115, 116]
def terL (t : TermD) : List UInt8 := [116, 101, 114, 109, 32] ++ t.region.data.toList ++ [32] ++ chL t.ch ++ [32]
def ruleL (t : TermD) : List UInt8 := if t.free = true then [102, 114, 101, 101, 10] else Lib.itoa t.days ++ [32] ++ Lib.itoa t.wait ++ [10]
def terT (t : TermD) : List UInt8 := terL t ++ ruleL t
def purH (p : PurD) : List UInt8 := [112, 117, 114, 112, 111, 115, 101, 32] ++ p.name.data.toList ++ [10]
def purT (p : PurD) : List UInt8 := purH p ++ p.terms.flatMap terT
def polT (ps : List PurD) : List UInt8 := ps.flatMap purT
theorem flatMap_take_succ {D : Type} {f : D → List UInt8} {l : List D} {i : Nat} (h : i < l.length) : (l.take (i + 1)).flatMap f = (l.take i).flatMap f ++ f l[i] := by
  rw [List.take_succ_eq_append_getElem h, List.flatMap_append]
  simp
theorem flatMap_len {D : Type} {f : D → List UInt8} {n : Nat} : ∀ (l : List D), (∀ d ∈ l, (f d).length ≤ n) → (l.flatMap f).length ≤ l.length * n
  | [], _ => by simp
  | d :: l, h => by
    have h1 := h d (by simp)
    have h2 := flatMap_len l (fun d hd => h d (List.mem_cons_of_mem _ hd))
    rw [List.flatMap_cons, List.length_append, List.length_cons, Nat.succ_mul]
    omega
theorem chL_len (n : Int) : (chL n).length = 4 := by
  unfold chL
  split
  · rfl
  · split
    · rfl
    · split <;> rfl
theorem tes_parts {ts : List TermD} (h : tesErr ts = 0) : ts.length ≤ 160 ∧ ∀ t ∈ ts, isKey t.region = true ∧ (1 ≤ t.ch ∧ t.ch ≤ 4) ∧ (0 ≤ t.days ∧ t.days ≤ 2000) ∧ 0 ≤ t.wait ∧ t.wait ≤ 100000 := by
  have h3 := (tes_right h).2
  unfold tesErr at h
  split at h
  · omega
  · rw [fstErr_zero] at h
    refine ⟨by omega, fun t ht => ?_⟩
    have h4 := h3 t ht
    obtain ⟨i, hi, rfl⟩ := List.mem_iff_getElem.1 ht
    have h2 := h i hi
    rw [teErr_at hi] at h2
    by_cases a1 : isKey ts[i].region = false
    · rw [if_pos a1] at h2; omega
    · rw [if_neg a1] at h2
      by_cases a2 : chB ts[i].ch = false
      · rw [if_pos a2] at h2; omega
      · refine ⟨by simpa using a1, ?_, h4⟩
        have : chB ts[i].ch = true := by simpa using a2
        unfold chB at this
        simpa using this
theorem pol_parts {ps : List PurD} (h : polErr ps = 0) : ∀ p ∈ ps, isKey p.name = true ∧ tesErr p.terms = 0 := by
  intro p hp
  refine ⟨?_, (pol_right h).2 p hp⟩
  unfold polErr at h
  split at h
  · omega
  · split at h
    · omega
    · rw [fstErr_zero] at h
      obtain ⟨i, hi, rfl⟩ := List.mem_iff_getElem.1 hp
      have h2 := h i hi
      rw [puErr_at hi] at h2
      split at h2
      · omega
      · rename_i c; simpa using c
theorem nDigits_le : ∀ {k u : Nat}, 1 ≤ k → u < 10 ^ k → Lib.nDigits u ≤ k
  | 0, _, h, _ => by omega
  | k + 1, u, _, h => by
    by_cases c : u < 10
    · rw [Lib.nDigits_small c]; omega
    · cases k with
      | zero => simp at h; omega
      | succ k =>
        rw [Lib.nDigits_big c]
        have := nDigits_le (k := k + 1) (u := u / 10) (by omega) (by rw [Nat.pow_succ] at h; omega)
        omega
theorem itoa_len {n : Int} {k : Nat} (hk : 1 ≤ k) (h0 : 0 ≤ n) (h1 : n < 10 ^ k) : (Lib.itoa n).length ≤ k := by
  unfold Lib.itoa
  rw [if_neg (by omega), Lib.decDigits_length]
  refine nDigits_le hk ?_
  have : ((n.toNat : Nat) : Int) < ((10 ^ k : Nat) : Int) := by rw [Int.toNat_of_nonneg h0]; exact_mod_cast h1
  exact_mod_cast this
theorem terL_len {t : TermD} (h : isKey t.region = true) : (terL t).length ≤ 51 := by
  have := (isKey_size h).2
  have e : t.region.data.toList.length = t.region.size := by rw [Array.length_toList]; rfl
  unfold terL
  simp only [List.length_append, List.length_cons, List.length_nil, chL_len, e]
  omega
theorem ruleL_len {t : TermD} (h : (0 ≤ t.days ∧ t.days ≤ 2000) ∧ 0 ≤ t.wait ∧ t.wait ≤ 100000) : (ruleL t).length ≤ 12 := by
  have h1 := itoa_len (n := t.days) (k := 4) (by omega) (by omega) (by omega)
  have h2 := itoa_len (n := t.wait) (k := 6) (by omega) (by omega) (by omega)
  unfold ruleL
  split
  · simp
  · simp only [List.length_append, List.length_cons, List.length_nil]
    omega
theorem terT_len {ts : List TermD} (h : tesErr ts = 0) : ∀ t ∈ ts, (terT t).length ≤ 63 := by
  intro t ht
  obtain ⟨a, b, c, d⟩ := (tes_parts h).2 t ht
  have h1 := terL_len a
  have h2 := ruleL_len ⟨c, d⟩
  unfold terT
  rw [List.length_append]
  omega
theorem purH_len {p : PurD} (h : isKey p.name = true) : (purH p).length ≤ 49 := by
  have := (isKey_size h).2
  have e : p.name.data.toList.length = p.name.size := by rw [Array.length_toList]; rfl
  unfold purH
  simp only [List.length_append, List.length_cons, List.length_nil, e]
  omega
theorem ters_len {ts : List TermD} (h : tesErr ts = 0) (j : Nat) : ((ts.take j).flatMap terT).length ≤ 10080 := by
  have h1 := flatMap_len (n := 63) (f := terT) (ts.take j) (fun d hd => terT_len h d (List.mem_of_mem_take hd))
  have h2 := (tes_parts h).1
  have h3 : (ts.take j).length ≤ 160 := by rw [List.length_take]; omega
  have : (ts.take j).length * 63 ≤ 160 * 63 := Nat.mul_le_mul_right _ h3
  omega
theorem pur_len {ps : List PurD} (h : polErr ps = 0) : ∀ p ∈ ps, (purT p).length ≤ 10129 := by
  intro p hp
  obtain ⟨a, b⟩ := pol_parts h p hp
  have h1 := purH_len a
  have h2 := ters_len b p.terms.length
  rw [List.take_length] at h2
  unfold purT
  rw [List.length_append]
  omega
theorem polT_len {ps : List PurD} (hl : ps.length ≤ 3) (h : polErr ps = 0) (i : Nat) : ((ps.take i).flatMap purT).length ≤ 30387 := by
  have h1 := flatMap_len (n := 10129) (f := purT) (ps.take i) (fun d hd => pur_len h d (List.mem_of_mem_take hd))
  have h3 : (ps.take i).length ≤ 3 := by rw [List.length_take]; omega
  have : (ps.take i).length * 10129 ≤ 3 * 10129 := Nat.mul_le_mul_right _ h3
  omega
end Go.Proofs.YtmlpfbffecdepaaGreatDoor

/- strconv.Itoa, and what listed numbers of the library's it reads. -/
namespace Go.Proofs.YtmlpfbffecdepaaGreatDoor
set_option linter.unusedVariables false
open Go.RowKit
/-- The powers of ten lie in H. -/
def Tab10 (H : Frz) : Prop := ∀ W, H.In W → Lib.TabIs Tryz.prog W "internal/strconv.uint64pow10" .u64 Lib.pow10Tab
theorem Tab10.le {H H' : Frz} (h : Tab10 H) (hl : H.Le H') : Tab10 H' := fun W hW => h W (hW.le hl)
theorem itoa_any {H : Frz} (hT : Tab10 H) (n : Int) (h0 : -9223372036854775808 ≤ n) (h1 : n ≤ 9223372036854775807) (W : World) (hH : H.In W) :
    Calls Tryz.prog 27 #[.int .i64 n] W fun e W' => e = .returned (.string ⟨(Lib.itoa n).toArray⟩) ∧ Below W.heap.size W W' := by
  refine (Tryz.strconv_Itoa n h0 h1 W (hT W hH)).mono ?_
  rintro e W' ⟨rfl, k, os, rfl⟩
  exact ⟨rfl, rfl, rfl, rfl, by simp [Sort.grow, World.drewN], fun i hi => by
    show ((W.drewN k).heap ++ os)[i]? = _
    rw [Array.getElem?_append_left (by exact hi)]; rfl⟩
end Go.Proofs.YtmlpfbffecdepaaGreatDoor

/- strings.Builder: written, measured, read. (The arm of copyCheck that the translation leaves out is met by no builder of this kind.) -/
namespace Go.Proofs.YtmlpfbffecdepaaGreatDoor
set_option linter.unusedVariables false
open Go.RowKit
theorem szBld : (Tryz.prog.info? 69).map (·.size) = some 2 := by kernel_rfl
theorem liesBld : liesAt Tryz.prog Tryz.prog.depth 69 (2 / Tryz.prog.cellsOf 69) 0 69 1 = true := by kernel_rfl
theorem infoByte_ : (Tryz.prog.info? 5).map (fun i => (i.zero, i.size, i.bytes)) = some (some (.int .u8 0), 1, 1) := by kernel_rfl
set_option maxHeartbeats 1000000 in
set_option maxRecDepth 100000 in
theorem copyUsed (b : Nat) (w : World) (h0 : w.cell? ⟨b, 0, none⟩ = some (.pointer (some ⟨b, 0, none⟩))) :
    Calls Tryz.prog 53 #[.pointer (some ⟨b, 0, none⟩)] w fun e w' => e = .returned (.tuple #[]) ∧ w = w' := by
  obtain ⟨j, hj, -⟩ := Option.map_eq_some_iff.1 szBld
  go_enter Tryz.func53, Tryz.ntmps53
  go_wp2
  rw [Lib.run_neq_ptr_same w _ Tryz.underlying66 hj]
  go_wp2
  go_end0
  exact ⟨rfl, rfl⟩
set_option maxHeartbeats 1000000 in
set_option maxRecDepth 100000 in
theorem copyFresh (b : Nat) (w : World) (h0 : w.cell? ⟨b, 0, none⟩ = some (.pointer none)) (hsh : w.shape? b = some (69, 2)) (hfz : w.frozen? ⟨b, 0, none⟩ = false) :
    Calls Tryz.prog 53 #[.pointer (some ⟨b, 0, none⟩)] w fun e w' => e = .returned (.tuple #[]) ∧ w' = w.setCell ⟨b, 0, none⟩ (.pointer (some ⟨b, 0, none⟩)) := by
  obtain ⟨j, hj, hjs⟩ := Option.map_eq_some_iff.1 szBld
  go_enter Tryz.func53, Tryz.ntmps53
  go_wp2
  rw [Lib.run_to_unsafe w ⟨b, 0, none⟩ Tryz.underlying66 Tryz.underlying140 hj (by rw [hjs]; decide) hsh (Nat.zero_lt_succ 1)]
  simp only [Result.andThen]
  rw [Oper.upon_value]
  go_wp2
  rw [run_callFunc_extern Tryz.func85 (by kernel_rfl) (by kernel_rfl) (by kernel_rfl) (e := Extern.AbiNoEscape.same) (by kernel_rfl)]
  rw [Lib.run_noEscape]
  simp only [Result.andThen]
  rw [Oper.upon_value]
  go_wp2
  rw [Lib.run_from_unsafe w ⟨b, 0, none⟩ Tryz.underlying140 Tryz.underlying66 hj hsh liesBld]
  simp only [Result.andThen]
  rw [Oper.upon_value]
  go_wp2
  go_end0
  exact ⟨rfl, rfl⟩
theorem copy_any (B b : Nat) (bs : List Value) (w : World) (h : Lib.IsBuilderF 69 5 B b bs w) :
    Calls Tryz.prog 53 #[.pointer (some ⟨b, 0, none⟩)] w fun e w' => e = .returned (.tuple #[]) ∧ (Lib.BuilderAtF 69 5 B b (.pointer (some ⟨b, 0, none⟩)) bs w' ∧ Below B w w' ∧ Lib.OthersKept 5 (some b) w w') := by
  rcases h with h | h
  · refine (copyFresh b w h.cell0 h.shape h.frozen0).mono ?_
    rintro e w' ⟨rfl, rfl⟩
    exact ⟨rfl, h.used _, (Below.refl B w).setCell (p := ⟨b, 0, none⟩) h.1 _, (Lib.OthersKept.refl _ _ w).setCell ⟨b, 0, none⟩ rfl _⟩
  · refine (copyUsed b w h.cell0).mono ?_
    rintro e w' ⟨rfl, rfl⟩
    exact ⟨rfl, h, Below.refl B _, Lib.OthersKept.refl _ _ _⟩
set_option maxHeartbeats 2000000 in
set_option maxRecDepth 100000 in
theorem writeK (B b : Nat) (bs : List Value) (s : ByteArray) (w : World) (h : Lib.IsBuilderF 69 5 B b bs w) (hlen : bs.length + s.size ≤ 140737488355328) (hBw : B ≤ w.heap.size) :
    Calls Tryz.prog 25 #[.pointer (some ⟨b, 0, none⟩), .string s] w fun e w' => e = .returned (.tuple #[.int .i64 s.size, .nilIface]) ∧ (Lib.BuilderAtF 69 5 B b (.pointer (some ⟨b, 0, none⟩)) (bs ++ Lib.strCells s) w' ∧ Below B w w' ∧ Lib.OthersKept 5 (some b) w w') := by
  obtain ⟨i0, hi, hz0, hz1, hz2⟩ := info_parts infoByte_
  go_enter Tryz.func25, Tryz.ntmps25
  go_wp2_with fail
  refine (copy_any B b bs _ h).mono ?_
  rintro e w1 ⟨rfl, h1, hb1, hk1⟩
  obtain ⟨hB, v, hbk, hown, hne⟩ := h1
  have c0 : w1.cell? ⟨b, 0, none⟩ = some (.pointer (some ⟨b, 0, none⟩)) := by rw [Lib.cell_of_heap hbk]; rfl
  have c1 : w1.cell? ⟨b, 1, none⟩ = some v := by rw [Lib.cell_of_heap hbk]; rfl
  go_wp2_with (at_builtin; refine Lib.wpList_append_own_stringF _ rfl _ _ 67 9 rfl B 5 i0 Tryz.underlying67 Tryz.underlying9 hi hz0 hz1 hz2 _ _ _ rfl hown s rfl ?c3 ?c4 ?c5 ?_)
  case c3 => unfold maxLen; omega
  case c4 => omega
  case c5 => have := hb1.size; omega
  intro v' w2 hown' hgrow _
  have hlt : b < w1.heap.size := lt_of_heap hbk
  have hb2 : w2.heap[b]? = some (.cells #[.pointer (some ⟨b, 0, none⟩), v] 69 (0, 0)) := by
    rw [hgrow.block b hlt (fun e => hne e.symm)]
    exact hbk
  have d0 : w2.cell? ⟨b, 0, none⟩ = some (.pointer (some ⟨b, 0, none⟩)) := by rw [Lib.cell_of_heap hb2]; rfl
  have d1 : w2.cell? ⟨b, 1, none⟩ = some v := by rw [Lib.cell_of_heap hb2]; rfl
  have f1 : w2.frozen? ⟨b, 1, none⟩ = false := Lib.frozen_of_heap hb2 1
  obtain ⟨ao, n', cap, rfl⟩ : ∃ ao n' cap, v' = .slice ao n' cap := by
    rcases hown'.2 with ⟨hv, _⟩ | ⟨g, cap, cur, fz, hv, _⟩
    · exact ⟨_, _, _, hv⟩
    · exact ⟨_, _, _, hv⟩
  go_wp2
  go_ret2
  refine ⟨rfl, ?_, ?_, (hk1.grown hgrow (Lib.ownsRowF_kind hown)).setCell ⟨b, 1, none⟩ rfl _⟩
  · exact Lib.BuilderAtF.put (T := 69) (e := 5) hB hb2 (bs' := bs ++ Lib.strCells s) (by simpa [Lib.strCells_length] using hown') (by decide)
  · exact (hb1.grown hgrow (by have := hb1.size; omega) (fun k hk => (hown.lt k hk).1)).setCell (p := ⟨b, 1, none⟩) hB _
/-- A builder in block b, of the call's own from B on, that holds l. -/
def Bld (B b : Nat) (l : List UInt8) (W : World) : Prop := Lib.IsBuilderF 69 5 B b (Lib.byteCells l) W
theorem Bld.new (w : World) : Bld w.heap.size w.heap.size [] (w.alloc (.cells #[.pointer none, .slice none 0 0] 69)) := Lib.IsBuilderF.of (Lib.fresh_isBuilder _ _ w)
theorem Bld.below {B b : Nat} {l : List UInt8} {W W' : World} (h : Bld B b l W) (hb : Below W.heap.size W W') : Bld B b l W' := by
  have hk : ∀ p, Lib.BuilderAtF 69 5 B b p (Lib.byteCells l) W → Lib.BuilderAtF 69 5 B b p (Lib.byteCells l) W' := by
    rintro p ⟨h0, v, h1, h2, h3⟩
    exact ⟨h0, v, (hb.block b (lt_of_heap h1)).trans h1, h2.kept (row := none) ⟨hb.os, hb.tape, hb.output, hb.size, fun i hi _ => hb.block i hi⟩ (by cases e : v.ownBlock <;> simp), h3⟩
  exact h.elim (fun h => Or.inl (hk _ h)) (fun h => Or.inr (hk _ h))
theorem write_any {B b : Nat} {l : List UInt8} {W : World} (s : ByteArray) (h : Bld B b l W) (hlen : l.length + s.size ≤ 1000000000) (hB : B ≤ W.heap.size) :
    Calls Tryz.prog 25 #[.pointer (some ⟨b, 0, none⟩), .string s] W fun e W' => e = .returned (.tuple #[.int .i64 s.size, .nilIface]) ∧ Bld B b (l ++ s.data.toList) W' ∧ Below B W W' ∧ Lib.OthersKept 5 (some b) W W' := by
  refine (writeK B b (Lib.byteCells l) s W h (by rw [Lib.byteCells_length]; omega) hB).mono ?_
  rintro e W' ⟨rfl, h1, h2, h3⟩
  refine ⟨rfl, ?_, h2, h3⟩
  unfold Bld
  rw [Lib.byteCells_append, ← Lib.strCells_eq]
  exact Or.inr h1
theorem bldLen_any {B b : Nat} {l : List UInt8} {W : World} (h : Bld B b l W) :
    Calls Tryz.prog 28 #[.pointer (some ⟨b, 0, none⟩)] W fun e W' => e = .returned (.int .i64 l.length) ∧ W = W' := by
  refine (Tryz.Builder_Len_f B b (Lib.byteCells l) W h).mono ?_
  rintro e W' ⟨rfl, h1⟩
  exact ⟨by rw [Lib.byteCells_length], h1.symm⟩
theorem bldString_any {B b : Nat} {l : List UInt8} {W : World} (h : Bld B b l W) (hB : B ≤ W.heap.size) :
    Calls Tryz.prog 29 #[.pointer (some ⟨b, 0, none⟩)] W fun e W' => e = .returned (.string ⟨l.toArray⟩) ∧ Bld B b l W' ∧ Below B W W' ∧ Lib.OthersKept 5 (some b) W W' :=
  Tryz.Builder_String_any_k B b l W h hB
end Go.Proofs.YtmlpfbffecdepaaGreatDoor

/- consent.TextPolicy: the text of a right policy. -/
namespace Go.Proofs.YtmlpfbffecdepaaGreatDoor
set_option linter.unusedVariables false
open Go.RowKit
theorem channelWord_any (ch : Int) (h1 : 1 ≤ ch) (h4 : ch ≤ 4) (w : World) :
    Calls Tryz.prog 26 #[.int .i64 ch] w fun e w' => e = .returned (.string ⟨(chL ch).toArray⟩) ∧ Below w.heap.size w w' := by
  have hb := Lib.hid (new1 (w := w) (.cells #[.string ⟨#[]⟩, .string ⟨#[109, 97, 105, 108]⟩, .string ⟨#[116, 101, 120, 116]⟩, .string ⟨#[112, 117, 115, 104]⟩, .string ⟨#[112, 111, 115, 116]⟩] 9))
  have : ch = 1 ∨ ch = 2 ∨ ch = 3 ∨ ch = 4 := by omega
  rcases this with rfl | rfl | rfl | rfl
  all_goals
    go_enter Tryz.func26, Tryz.ntmps26
    go_wp2_with fail
    go_ret
    exact ⟨rfl, hb.out⟩
/-- The state of the writing. -/
structure TS (w : World) (acc : List UInt8) (W : World) : Prop where
  bld : Bld w.heap.size w.heap.size acc W
  bel : Below w.heap.size w W
theorem TS.below {w W W' : World} {acc : List UInt8} (h : TS w acc W) (hb : Below W.heap.size W W') : TS w acc W' := ⟨h.bld.below hb, h.bel.trans (hb.mono h.bel.size)⟩
theorem TS.write {w W : World} {acc : List UInt8} (h : TS w acc W) (s : ByteArray) (hl : acc.length + s.size ≤ 1000000000) :
    Calls Tryz.prog 25 #[.pointer (some ⟨w.heap.size, 0, none⟩), .string s] W fun e W' => e = .returned (.tuple #[.int .i64 s.size, .nilIface]) ∧ TS w (acc ++ s.data.toList) W' ∧ Lib.OthersKept 5 (some w.heap.size) W W' := by
  refine (write_any s h.bld hl h.bel.size).mono ?_
  rintro e W' ⟨rfl, h1, h2, h3⟩
  exact ⟨rfl, ⟨h1, h.bel.trans h2⟩, h3⟩
theorem bsz (a : Array UInt8) : (ByteArray.mk a).size = a.size := rfl
theorem Bld.lt {B b : Nat} {l : List UInt8} {W : World} (h : Bld B b l W) : b < W.heap.size := by
  have hk : ∀ p, Lib.BuilderAtF 69 5 B b p (Lib.byteCells l) W → b < W.heap.size := by
    rintro p ⟨h0, v, h1, h2, h3⟩
    exact lt_of_heap h1
  exact h.elim (fun h => hk _ h) (fun h => hk _ h)
theorem kept_blk {b p : Nat} {W W' : World} {cs : Array Value} {T : TypeId} (hk : Lib.OthersKept 5 (some b) W W') (h : W.heap[p]? = some (.cells cs T (0, 0))) (hne : p ≠ b) (hT : T ≠ 5) : W'.heap[p]? = some (.cells cs T (0, 0)) :=
  hk p _ h (fun e => hne (Option.some.inj e)) (by
    rintro c fz e
    injection e with _ e2
    exact hT e2)
theorem TS.drew {w W W' : World} {acc : List UInt8} (h : TS w acc W) (hb : Below W.heap.size W W') : TS w acc W' := h.below hb
set_option maxHeartbeats 8000000 in
set_option maxRecDepth 100000 in
theorem textPolicy_any (H : Frz) (hT : Tab10 H) (A : Option Addr) (cap : Nat) (ps : List PurD) (w : World) (hH : H.In w) (hP : PolIn H A ps) (hl : ps.length ≤ 3) (h0 : polErr ps = 0) :
    Calls Tryz.prog 9 #[.slice A ps.length cap] w fun e w' => e = .returned (.tuple #[.string ⟨(polT ps).toArray⟩, .int .i64 0]) ∧ Below w.heap.size w w' := by
  have hps := pol_right h0
  have HCP := Lib.hid (checkPolicy_any H A cap ps w hH hP (by omega))
  rw [h0] at HCP
  have HH := Lib.hid hH
  have HR := Lib.hid hP.row
  have HPT := Lib.hid hP.terms
  have HT := Lib.hid hT
  have HLEN := Lib.hid (polT_len hl h0)
  have HPP := Lib.hid (pol_parts h0)
  have HS := Lib.hid hP.size
  clear hH hP hT hps h0
  go_enter Tryz.func9, Tryz.ntmps9
  go_wp2_with fail
  refine HCP.out.mono ?_
  rintro e w1 ⟨rfl, hb⟩
  have HB := Lib.hid hb
  have HH1 := Lib.hid (HH.out.below hb)
  have HTS : Hid (TS w1 [] (w1.alloc (.cells #[.pointer none, .slice none 0 0] 69))) := ⟨Bld.new w1, new1 _⟩
  clear hb HH HCP
  go_wp2_with fail
  generalize w1.alloc (.cells #[.pointer none, .slice none 0 0] 69) = W0 at *
  go_loopw [7, 17] (fun _ t wr => ∃ i : Nat, i ≤ ps.length ∧ t = .int .i64 i ∧ Hid (TS w1 ((ps.take i).flatMap purT) wr)) (fun _ t _ => ps.length - (intOf t).toNat)
  case atStart => exact ⟨0, by omega, rfl, HTS⟩
  case round =>
    obtain ⟨i, hi, rfl, hts⟩ := hrel
    clear HTS
    by_cases hlt : i < ps.length
    · have hin := HH1.out.below hts.out.bel
      obtain ⟨b, off, hA, hbl, hc⟩ := HR.out.at_ hin hlt (by omega)
      subst hA
      have c0 : wr.cell? ⟨b, off + i * 2, none⟩ = some (.string ps[i].name) := hc 0 (by omega)
      have c1 : wr.cell? ⟨b, off + i * 2 + 1, none⟩ = some (.slice ps[i].adr ps[i].terms.length ps[i].cap) := hc 1 (by omega)
      have HTR := Lib.hid (HPT.out _ (List.getElem_mem hlt))
      have hpp := HPP.out _ (List.getElem_mem hlt)
      have HNX := Lib.hid (flatMap_take_succ (f := purT) hlt)
      have HL1 := Lib.hid (HLEN.out i)
      have HPL := Lib.hid (purH_len hpp.1)
      have HTE := Lib.hid (tes_parts hpp.2)
      have HTL := Lib.hid (ters_len hpp.2)
      have hns : ps[i].name.size ≤ 1000 := by have := (isKey_size hpp.1).2; omega
      have htl : ps[i].terms.length ≤ 1000000 := by have := (tes_parts hpp.2).1; omega
      clear hc hpp
      generalize ps[i] = d at *
      generalize (ps.take i).flatMap purT = acc at *
      have z0 : (wr.alloc (.cells #[.string d.name, .slice d.adr d.terms.length d.cap] 58)).cell? ⟨wr.heap.size, 0, none⟩ = some (.string d.name) := newc 0 rfl
      have HZ : Hid ((wr.alloc (.cells #[.string d.name, .slice d.adr d.terms.length d.cap] 58)).heap[wr.heap.size]? = some (.cells #[.string d.name, .slice d.adr d.terms.length d.cap] 58 (0, 0))) := heap_alloc_new _ _
      have HTS1 := Lib.hid (hts.out.below (new1 (w := wr) (.cells #[.string d.name, .slice d.adr d.terms.length d.cap] 58)))
      have hne : wr.heap.size ≠ w1.heap.size := by have := hts.out.bld.lt; omega
      have HNE := Lib.hid hne
      go_upto_region 8 with (fail)
      clear c0 c1 hne hts hin
      generalize wr.alloc (.cells #[.string d.name, .slice d.adr d.terms.length d.cap] 58) = W1 at *
      generalize wr.heap.size = pb at *
      go_wp2_with fail
      refine (HTS1.out.write _ (by
        have := HL1.out
        simp [bsz]
        omega)).mono ?_
      rintro e W2 ⟨rfl, hts2, hk2⟩
      have HZ2 := Lib.hid (kept_blk hk2 HZ.out HNE.out (by decide))
      have HTS2 : Hid (TS w1 (acc ++ purH d) W2) := by
        have e : (acc ++ ((⟨#[112, 117, 114, 112, 111, 115, 101, 32]⟩ : ByteArray) ++ d.name ++ ⟨#[10]⟩).data.toList) = acc ++ purH d := by simp [purH]
        rw [← e]
        exact hts2
      clear hts2 hk2 HZ HTS1 z0
      have z1 : W2.cell? ⟨pb, 1, none⟩ = some (.slice d.adr d.terms.length d.cap) := cell_h HZ2.out 1 rfl
      obtain ⟨wo, rfl⟩ : ∃ wo : World, wo = wr := ⟨_, rfl⟩
      go_wp2_with fail
      clear z1
      go_loopw [9, 29] (fun _ t wr => ∃ j : Nat, j ≤ d.terms.length ∧ t = .int .i64 j ∧ Hid (TS w1 (acc ++ purH d ++ (d.terms.take j).flatMap terT) wr)) (fun _ t _ => d.terms.length - (intOf t).toNat)
      case atStart => exact ⟨0, by omega, rfl, by show TS _ _ _; simpa using HTS2.out⟩
      case round =>
        obtain ⟨j, hj, rfl, hts⟩ := hrel
        clear HTS2
        by_cases hjt : j < d.terms.length
        · have hin := HH1.out.below hts.out.bel
          obtain ⟨b2, off2, hA2, hbl2, hc2⟩ := HTR.out.at_ hin hjt (by omega)
          have c0 : wr.cell? ⟨b2, off2 + j * 5, none⟩ = some (.string d.terms[j].region) := hc2 0 (by omega)
          have c1 : wr.cell? ⟨b2, off2 + j * 5 + 1, none⟩ = some (.int .i64 d.terms[j].ch) := hc2 1 (by omega)
          have c2 : wr.cell? ⟨b2, off2 + j * 5 + 2, none⟩ = some (.bool d.terms[j].free) := hc2 2 (by omega)
          have c3 : wr.cell? ⟨b2, off2 + j * 5 + 3, none⟩ = some (.int .i64 d.terms[j].days) := hc2 3 (by omega)
          have c4 : wr.cell? ⟨b2, off2 + j * 5 + 4, none⟩ = some (.int .i64 d.terms[j].wait) := hc2 4 (by omega)
          obtain ⟨hk0, hk1, hk2, hk3, hk4⟩ := HTE.out.2 _ (List.getElem_mem hjt)
          have HTN := Lib.hid (flatMap_take_succ (f := terT) hjt)
          have HTLj := Lib.hid (HTL.out j)
          have HTT := Lib.hid (terL_len hk0)
          have HRL := Lib.hid (ruleL_len ⟨hk2, hk3, hk4⟩)
          have hrs : d.terms[j].region.size ≤ 1000 := by have := (isKey_size hk0).2; omega
          have HSL : Hid (d.adr = some ⟨b2, off2, none⟩) := hA2
          rw [hA2]
          clear hc2 hA2 hk0
          generalize d.terms[j] = t at *
          generalize (d.terms.take j).flatMap terT = tacc at *
          have HZ3 : Hid ((wr.alloc (.cells #[.string t.region, .int .i64 t.ch, .bool t.free, .int .i64 t.days, .int .i64 t.wait] 60)).heap[wr.heap.size]? = some (.cells #[.string t.region, .int .i64 t.ch, .bool t.free, .int .i64 t.days, .int .i64 t.wait] 60 (0, 0))) := heap_alloc_new _ _
          have HTS3 := Lib.hid (hts.out.below (new1 (w := wr) (.cells #[.string t.region, .int .i64 t.ch, .bool t.free, .int .i64 t.days, .int .i64 t.wait] 60)))
          have HNE3 : Hid (wr.heap.size ≠ w1.heap.size) := by have := hts.out.bld.lt; show _ ≠ _; omega
          go_upto_region 12 with (fail)
          clear c0 c1 c2 c3 c4 hts hin
          generalize wr.alloc (.cells #[.string t.region, .int .i64 t.ch, .bool t.free, .int .i64 t.days, .int .i64 t.wait] 60) = W3 at *
          generalize wr.heap.size = tb at *
          have J0 := lift_cell (cell_h HZ3.out 0 (v := .string t.region) rfl)
          have J1 := lift_cell (cell_h HZ3.out 1 (v := .int .i64 t.ch) rfl)
          (refine wp_region_det 9 61 (fun W => Below (W3).heap.size (W3) W) (by kernel_rfl) (by kernel_rfl) (by rfl) (Below.refl _ _).drew ?_; simp only [List.take_succ_cons, List.take_zero, List.drop_succ_cons, List.drop_zero])
          iterate 2 (refine detSeq_op rfl ?_ (fun W hW => ?_) ?_; rotate_left; (focus simp only [OpV]; go_simp; first | exact rfl | exact ⟨rfl, hW⟩))
          (refine detSeq_op rfl (.string ((⟨#[116, 101, 114, 109, 32]⟩ : ByteArray) ++ t.region)) (fun W hW => ?_) ?_; focus (simp only [OpV]; go_simp; rw [if_neg (by first | omega | (have := chL_len t.ch; omega))]; exact ⟨rfl, hW⟩))
          (refine detSeq_op rfl (.string ((⟨#[116, 101, 114, 109, 32]⟩ : ByteArray) ++ t.region ++ ⟨#[32]⟩)) (fun W hW => ?_) ?_; focus (simp only [OpV]; go_simp; rw [if_neg (by first | omega | (have := chL_len t.ch; omega))]; exact ⟨rfl, hW⟩))
          iterate 2 (refine detSeq_op rfl ?_ (fun W hW => ?_) ?_; rotate_left; (focus simp only [OpV]; go_simp; first | exact rfl | exact ⟨rfl, hW⟩))
          (refine detSeq_op rfl ?_ (fun W hW => ?_) ?_; rotate_left; focus (simp only [OpV]; go_simp; refine (channelWord_any t.ch hk1.1 hk1.2 W).mono ?_; rintro e w' ⟨rfl, hb⟩; refine ⟨_, rfl, ?_, det_back hW hb⟩; exact rfl))
          (refine detSeq_op rfl (.string ((⟨#[116, 101, 114, 109, 32]⟩ : ByteArray) ++ t.region ++ ⟨#[32]⟩ ++ ⟨(chL t.ch).toArray⟩)) (fun W hW => ?_) ?_; focus (simp only [OpV]; go_simp; rw [if_neg (by first | omega | (have := chL_len t.ch; omega))]; exact ⟨rfl, hW⟩))
          (refine detSeq_op rfl (.string ((⟨#[116, 101, 114, 109, 32]⟩ : ByteArray) ++ t.region ++ ⟨#[32]⟩ ++ ⟨(chL t.ch).toArray⟩ ++ ⟨#[32]⟩)) (fun W hW => ?_) ?_; focus (simp only [OpV]; go_simp; rw [if_neg (by first | omega | (have := chL_len t.ch; omega))]; exact ⟨rfl, hW⟩))
          refine detSeq_nil (fun W4 hW4 => ?_)
          have HZ4 : Hid (W4.heap[tb]? = some (.cells #[.string t.region, .int .i64 t.ch, .bool t.free, .int .i64 t.days, .int .i64 t.wait] 60 (0, 0))) := (hW4.block _ (lt_of_heap HZ3.out)).trans HZ3.out
          have HTS4 := Lib.hid (HTS3.out.below hW4)
          clear J0 J1 hW4 HTS3 HZ3
          go_wp2_with fail
          refine (HTS4.out.write _ (by
            have := HL1.out
            have := HPL.out
            have := HTLj.out
            simp [bsz, chL_len]
            omega)).mono ?_
          rintro e W5 ⟨rfl, hts5, hk5⟩
          have HZ5 := Lib.hid (kept_blk hk5 HZ4.out HNE3.out (by decide))
          have HTS5 : Hid (TS w1 (acc ++ purH d ++ tacc ++ terL t) W5) := by
            have e : (acc ++ purH d ++ tacc ++ ((⟨#[116, 101, 114, 109, 32]⟩ : ByteArray) ++ t.region ++ ⟨#[32]⟩ ++ ⟨(chL t.ch).toArray⟩ ++ ⟨#[32]⟩).data.toList) = acc ++ purH d ++ tacc ++ terL t := by simp [terL]
            rw [← e]
            exact hts5
          clear hts5 hk5 HZ4 HTS4
          have z2 : W5.cell? ⟨tb, 2, none⟩ = some (.bool t.free) := cell_h HZ5.out 2 rfl
          have HEND : Hid (∀ W, TS w1 (acc ++ purH d ++ tacc ++ terL t ++ ruleL t) W → TS w1 (acc ++ purH d ++ (d.terms.take (j + 1)).flatMap terT) W) := by
            intro W h
            rw [HTN.out]
            unfold terT
            simpa using h
          cases hfree : t.free with
          | true =>
            rw [hfree] at z2
            have HRU : Hid (ruleL t = [102, 114, 101, 101, 10]) := by show _ = _; unfold ruleL; rw [if_pos hfree]
            clear hfree
            go_wp2_with fail
            refine (HTS5.out.write _ (by
              have := HL1.out
              have := HPL.out
              have := HTLj.out
              have := HTT.out
              simp [bsz]
              omega)).mono ?_
            rintro e W6 ⟨rfl, hts6, -⟩
            have HTS6 := Lib.hid (HEND.out W6 (by rw [HRU.out]; exact hts6))
            clear hts6 z2
            go_wp2_with fail
            go_roundw
            case rel => exact ⟨j + 1, by omega, by go_num, HTS6⟩
            case measure => simp [intOf]; omega
          | false =>
            rw [hfree] at z2
            have HRU : Hid (ruleL t = Lib.itoa t.days ++ [32] ++ Lib.itoa t.wait ++ [10]) := by show _ = _; unfold ruleL; rw [if_neg (by rw [hfree]; decide)]
            have hid1 := itoa_len (n := t.days) (k := 4) (by omega) (by omega) (by omega)
            have hid2 := itoa_len (n := t.wait) (k := 6) (by omega) (by omega) (by omega)
            have HIN5 := Lib.hid (HH1.out.below HTS5.out.bel)
            clear hfree
            go_upto_region 15 with (fail)
            obtain ⟨W7, rfl⟩ : ∃ W7 : World, W7 = W5 := ⟨_, rfl⟩
            clear z2
            have J3 := lift_cell (cell_h HZ5.out 3 (v := .int .i64 t.days) rfl)
            have J4 := lift_cell (cell_h HZ5.out 4 (v := .int .i64 t.wait) rfl)
            (refine wp_region_det 9 61 (fun W => Below (W7).heap.size (W7) W) (by kernel_rfl) (by kernel_rfl) (by rfl) (Below.refl _ _).drew ?_; simp only [List.take_succ_cons, List.take_zero, List.drop_succ_cons, List.drop_zero])
            iterate 2 (refine detSeq_op rfl ?_ (fun W hW => ?_) ?_; rotate_left; (focus simp only [OpV]; go_simp; first | exact rfl | exact ⟨rfl, hW⟩))
            (refine detSeq_op rfl ?_ (fun W hW => ?_) ?_; rotate_left; focus (simp only [OpV]; go_simp; refine (itoa_any HT.out t.days (by omega) (by omega) W (HIN5.out.below hW)).mono ?_; rintro e w' ⟨rfl, hb⟩; refine ⟨_, rfl, ?_, det_back hW hb⟩; exact rfl))
            (refine detSeq_op rfl (.string ((⟨(Lib.itoa t.days).toArray⟩ : ByteArray) ++ ⟨#[32]⟩)) (fun W hW => ?_) ?_; focus (simp only [OpV]; go_simp; rw [if_neg (by first | omega | (have := chL_len t.ch; omega))]; exact ⟨rfl, hW⟩))
            iterate 2 (refine detSeq_op rfl ?_ (fun W hW => ?_) ?_; rotate_left; (focus simp only [OpV]; go_simp; first | exact rfl | exact ⟨rfl, hW⟩))
            (refine detSeq_op rfl ?_ (fun W hW => ?_) ?_; rotate_left; focus (simp only [OpV]; go_simp; refine (itoa_any HT.out t.wait (by omega) (by omega) W (HIN5.out.below hW)).mono ?_; rintro e w' ⟨rfl, hb⟩; refine ⟨_, rfl, ?_, det_back hW hb⟩; exact rfl))
            (refine detSeq_op rfl (.string ((⟨(Lib.itoa t.days).toArray⟩ : ByteArray) ++ ⟨#[32]⟩ ++ ⟨(Lib.itoa t.wait).toArray⟩)) (fun W hW => ?_) ?_; focus (simp only [OpV]; go_simp; rw [if_neg (by first | omega | (have := chL_len t.ch; omega))]; exact ⟨rfl, hW⟩))
            (refine detSeq_op rfl (.string ((⟨(Lib.itoa t.days).toArray⟩ : ByteArray) ++ ⟨#[32]⟩ ++ ⟨(Lib.itoa t.wait).toArray⟩ ++ ⟨#[10]⟩)) (fun W hW => ?_) ?_; focus (simp only [OpV]; go_simp; rw [if_neg (by first | omega | (have := chL_len t.ch; omega))]; exact ⟨rfl, hW⟩))
            refine detSeq_nil (fun W8 hW8 => ?_)
            have HTS8 := Lib.hid (HTS5.out.below hW8)
            clear J3 J4 hW8 HTS5
            go_wp2_with fail
            refine (HTS8.out.write _ (by
              have := HL1.out
              have := HPL.out
              have := HTLj.out
              have := HTT.out
              simp [bsz]
              omega)).mono ?_
            rintro e W9 ⟨rfl, hts9, -⟩
            have HTS9 : Hid (TS w1 (acc ++ purH d ++ (d.terms.take (j + 1)).flatMap terT) W9) := HEND.out W9 (by
              rw [HRU.out]
              have e : (acc ++ purH d ++ tacc ++ terL t ++ ((⟨(Lib.itoa t.days).toArray⟩ : ByteArray) ++ ⟨#[32]⟩ ++ ⟨(Lib.itoa t.wait).toArray⟩ ++ ⟨#[10]⟩).data.toList) = acc ++ purH d ++ tacc ++ terL t ++ (Lib.itoa t.days ++ [32] ++ Lib.itoa t.wait ++ [10]) := by simp
              rw [← e]
              exact hts9)
            clear hts9
            go_wp2_with fail
            go_roundw
            case rel => exact ⟨j + 1, by omega, by go_num, HTS9⟩
            case measure => simp [intOf]; omega
        · have HE : Hid (TS w1 (((ps.take (i + 1))).flatMap purT) wr) := by
            have := hts.out
            rw [List.take_of_length_le (by omega)] at this
            show TS _ _ _
            rw [HNX.out]
            unfold purT
            simpa using this
          clear hts
          go_wp2_with fail
          go_roundw
          case rel => exact ⟨i + 1, by omega, by go_num, HE⟩
          case measure => simp [intOf]; omega
    · have HE : Hid (TS w1 (polT ps) wr) := by
        have := hts.out
        rw [List.take_of_length_le (by omega)] at this
        exact this
      have hpl : (polT ps).length ≤ 30387 := by
        have := HLEN.out ps.length
        rw [List.take_length] at this
        exact this
      clear hts
      go_wp2_with fail
      refine (bldLen_any HE.out.bld).mono ?_
      rintro e W2 ⟨rfl, rfl⟩
      go_wp2_with fail
      refine (bldString_any HE.out.bld HE.out.bel.size).mono ?_
      rintro e W3 ⟨rfl, -, hb3, -⟩
      have HF := Lib.hid (HB.out.trans ((HE.out.bel.trans hb3).mono HB.out.size))
      clear hb3
      go_wp2_with fail
      go_ret2
      exact ⟨rfl, HF.out⟩
end Go.Proofs.YtmlpfbffecdepaaGreatDoor

/- The table of powers of ten lies there when a law begins. -/
namespace Go.Proofs.YtmlpfbffecdepaaGreatDoor
set_option linter.unusedVariables false
open Go.RowKit
theorem tab10_of {w : World} (h : VarHolds Tryz.prog w "internal/strconv.uint64pow10" (Lib.tabData .u64 Lib.pow10Tab)) : Tab10 (memH w) := by
  obtain ⟨g, t, cs, fuel, p, hg, hty, hvar, hd⟩ := h
  obtain rfl := Option.some.inj ((show Tryz.prog.globalNamed "internal/strconv.uint64pow10" = some 1 by kernel_rfl).symm.trans hg)
  obtain rfl := Option.some.inj ((show (Tryz.prog.globals[1]?).map (·.type) = some 192 by kernel_rfl).symm.trans hty)
  have hc := Lib.cells_of_tab Tryz.underlying192 Tryz.underlying156 (by kernel_rfl) (by kernel_rfl) hd
  intro W hW
  unfold Lib.TabIs World.var?
  rw [hg]
  simp only [Option.bind_some]
  unfold World.var? at hvar
  rw [hg] at hvar
  simp only [Option.bind_some] at hvar
  cases e : w.heap[1]? with
  | none => rw [e] at hvar; cases hvar
  | some o =>
    rw [hW _ o e]
    rw [e] at hvar
    cases o with
    | cells c T fr =>
      simp only [Option.some.injEq] at hvar ⊢
      rw [hvar, ← hc]
    | _ => cases hvar
/-- What a law over the pool and the table is told of its world. -/
structure GlobT (w : World) : Prop where
  pool : PoolIn (memH w)
  mlen : MLen (memH w)
  tab : Tab10 (memH w)
theorem globT_of {w : World} {l : List (String × DataW Unit)} (h : laidMetH Tryz.prog l w) (hl : (l.all fun x => x.2.handleName?.isNone) = true) (hm : ("handbill/handmake.idPool", poolData) ∈ l) (hm2 : ("internal/strconv.uint64pow10", Lib.tabData .u64 Lib.pow10Tab) ∈ l) (hs : w.ShapedOpen Tryz.prog) : GlobT w :=
  ⟨pool_of (laidH_holds h hl hm), mlen_of hs, tab10_of (laidH_holds h hl hm2)⟩
end Go.Proofs.YtmlpfbffecdepaaGreatDoor
