/- Texts of this claim, put together: SortK, SortSt, ConcSt, EqSt. -/
import Derived.Test.YtmlpfbffecdepaaGreatDoorGA
import Derived.Test.YtmlpfbffecdepaaGreatDoorGL
import Derived.Shelf.SlSortCmp.NoneTotal
import Derived.Test.YtmlpfbffecdepaaGreatDoorLaySort
import Derived.Test.YtmlpfbffecdepaaGreatDoorGH
import Derived.Test.YtmlpfbffecdepaaGreatDoorGB
import Derived.Laws.OwnMore
/- Rows of structs behind the shelf's sort: their block, plain. -/
namespace Go.Proofs.YtmlpfbffecdepaaGreatDoor
set_option linter.unusedVariables false
open Go.RowKit Go.Sort
section
variable {D : Type} [Inhabited D] {w : World} {g T k : Nat} {f : D → Nat → Value} {ds ds' : List D} {rest : List Value}
def encK (k : Nat) (f : D → Nat → Value) (d : D) : List Value := (List.range k).map (f d)
omit [Inhabited D] in
theorem encK_len (d : D) : (encK k f d).length = k := by simp [encK]
theorem flatK_list (ds : List D) : (flatK (encK k f) k ds.toArray).toList = cellsOf k f ds := by
  apply List.ext_getElem?
  intro t
  by_cases h : t < ds.length * k
  · have hk : 0 < k := by
      rcases Nat.eq_zero_or_pos k with h0 | h0
      · subst h0; simp at h
      · exact h0
    have h1 : t / k < ds.length := (Nat.div_lt_iff_lt_mul hk).2 h
    have h2 : t % k < k := Nat.mod_lt _ hk
    have h3 := cellsOf_get k f ds (t / k) (t % k) h1 h2
    rw [Nat.div_add_mod' t k] at h3
    rw [h3, Array.getElem?_toList]
    have hs : t < (flatK (encK k f) k ds.toArray).size := by simpa using h
    have h4 := get_flatK (encK k f) k ds.toArray t (by simpa using h)
    rw [getElem!_pos _ t hs] at h4
    rw [Array.getElem?_eq_getElem hs, h4]
    rw [getElem!_pos ds.toArray (t / k) (by simpa using h1), getElem!_pos _ (t % k) (by rw [encK_len]; exact h2)]
    simp [encK]
  · rw [List.getElem?_eq_none (by simp; omega), List.getElem?_eq_none (by rw [cellsOf_len]; omega)]
theorem holdsK_of_blk (h : KBlk w g T k f ds rest) : HoldsK (encK k f) k w g 0 ds.toArray := by
  intro j hj
  have hj' : j < (cellsOf k f ds).length := by rw [cellsOf_len]; simpa using hj
  refine ⟨?_, by rw [Nat.zero_add]; exact h.frozen j⟩
  unfold KBlk at h
  have e := flatK_list (k := k) (f := f) ds
  have h1 : (flatK (encK k f) k ds.toArray)[j]! = (cellsOf k f ds)[j] := by
    rw [getElem!_pos _ j hj, ← Array.getElem_toList]
    exact List.getElem_of_eq e _
  rw [h1]
  simp only [World.cell?, h, Nat.zero_add]
  simp only [Option.isSome_none, Bool.false_eq_true, if_false, List.getElem?_toArray]
  rw [List.getElem?_append_left hj', List.getElem?_eq_getElem hj']
  rfl
theorem kblk_sortWorldK (h : KBlk w g T k f ds rest) (hl : ds'.length = ds.length) (n : Nat) (os : Array Obj) : KBlk (sortWorldK (encK k f) k w g 0 n ds'.toArray os) g T k f ds' rest := by
  have hlt := h.lt
  unfold KBlk at h ⊢
  unfold sortWorldK
  rw [heap_grow_old _ _ (by unfold putRowK; simpa [putRow, mapBlock] using hlt)]
  have e : (putRowK (encK k f) k (Sort.ahead w n) g 0 ds'.toArray).heap[g]? = some (.cells (putCells id 0 (flatK (encK k f) k ds'.toArray) (cellsOf k f ds ++ rest).toArray) T (0, 0)) := by
    unfold putRowK
    simp [putRow, mapBlock, Array.getElem?_modify, h, onCells]
  rw [e]
  congr 2
  apply Array.ext_getElem?
  intro j
  have l1 : (cellsOf k f ds).length = ds.length * k := cellsOf_len _ _ _
  have l2 : (cellsOf k f ds').length = ds'.length * k := cellsOf_len _ _ _
  rw [hl] at l2
  have e := flatK_list (k := k) (f := f) ds'
  have hsz : (flatK (encK k f) k ds'.toArray).size = ds.length * k := by simp [hl]
  unfold putCells
  rw [Array.getElem?_mapIdx, List.getElem?_toArray, List.getElem?_toArray]
  by_cases c : j < ds.length * k
  · rw [List.getElem?_append_left (by rw [l1]; exact c), List.getElem?_append_left (by rw [l2]; exact c), List.getElem?_eq_getElem (by rw [l1]; exact c), List.getElem?_eq_getElem (by rw [l2]; exact c)]
    simp only [Option.map_some, Nat.zero_le, Nat.zero_add, Nat.sub_zero, true_and, hsz, if_pos c, id]
    congr 1
    rw [getElem!_pos _ j (by rw [hsz]; exact c), ← Array.getElem_toList]
    exact List.getElem_of_eq e _
  · rw [List.getElem?_append_right (by rw [l1]; omega), List.getElem?_append_right (by rw [l2]; omega), l1, l2]
    simp only [Nat.zero_le, Nat.zero_add, true_and, hsz, if_neg c, Option.map_id']
theorem grown_sortWorldK (enc : D → List Value) (k n : Nat) (d : Array D) (os : Array Obj) : w.grownBy (sortWorldK enc k w g 0 n d os) (some g) := by
  unfold sortWorldK putRowK
  refine ⟨rfl, rfl, rfl, by simp [putRow, mapBlock], fun i hi hne => ?_⟩
  rw [heap_grow_old _ _ (by simpa [putRow, mapBlock] using hi)]
  have : g ≠ i := fun e => hne (by rw [e])
  simp [putRow, mapBlock, Array.getElem?_modify, this]
theorem permIn_list {d d' : Array D} (h : PermIn 0 d.size d d') : d'.toList.Perm d.toList := by
  have h3 := h.2.2
  have e1 : d'.extract 0 d.size = d' := by rw [← h.1]; simp
  have e2 : d.extract 0 d.size = d := by simp
  rw [e1, e2] at h3
  exact h3
theorem sortedIn_list {lt : D → D → Bool} {d : Array D} (h : SortedIn lt 0 d.size d) : d.toList.Pairwise fun a b => lt b a = false := by
  rw [List.pairwise_iff_getElem]
  intro i j hi hj hij
  have := h i j (Nat.zero_le _) hij (by simpa using hj)
  rw [getElem!_pos d j (by simpa using hj), getElem!_pos d i (by simpa using hi)] at this
  simpa using this
end
end Go.Proofs.YtmlpfbffecdepaaGreatDoor

/- slices.SortFunc and slices.Grow at statements, out of the shelf. -/
namespace Go.Proofs.YtmlpfbffecdepaaGreatDoor
set_option linter.unusedVariables false
open Go.RowKit
theorem swo_of {D : Type} [Inhabited D] {f : D → D → Int} (h : CmpOk f) : Sort.SWO (ltOf f) := by
  refine ⟨fun x => ?_, fun x y z a b => ?_, fun x y z a b => ?_⟩
  · have := h.swap x x
    unfold ltOf
    rw [decide_eq_false_iff_not]
    omega
  · unfold ltOf at *
    rw [decide_eq_true_eq] at *
    have h1 := h.trans x y z (by omega) (by omega)
    have h2 := h.swap x z
    have h3 := h.swap x y
    have h4 := h.trans y z x (by omega)
    omega
  · unfold ltOf at *
    rw [decide_eq_false_iff_not] at *
    have h1 := h.swap x y
    have h2 := h.swap y z
    have h3 := h.swap x z
    have h4 := h.trans z y x (by omega) (by omega)
    omega
instance : Inhabited StD := ⟨zeroSt⟩
theorem sortFunc_St (cf : StD → StD → Int) (hc : CmpOk cf) (g : Nat) (cb : Array Value) (hcall : ∀ args w, (callFunc g args).run Tryz.prog w = .ok (.enter g args) w)
    (hcmp : ∀ (W : World) (a b : StD), Calls Tryz.prog g (#[.agg #[.int .i64 a.no, .int .i64 a.at_, .int .i64 a.kind, .string a.text, .string a.purp, .string a.region, .int .i64 a.ch, .int .i64 a.what], .agg #[.int .i64 b.no, .int .i64 b.at_, .int .i64 b.kind, .string b.text, .string b.purp, .string b.region, .int .i64 b.ch, .int .i64 b.what]] ++ cb) W fun e W' => e = .returned (.int .i64 (cf a b)) ∧ Gro W W')
    (B : Nat) (v : Value) (ds : List StD) (w : World) (hO : Orow w B 38 8 fSt v ds) (hl : ds.length ≤ 1000000) :
    Calls Tryz.prog 32 #[v, .func (.func g) #[] cb] w fun e w' =>
      e = .returned (.tuple #[]) ∧ ∃ ds' : List StD, ds'.Perm ds ∧ (ds'.Pairwise fun a b => cf a b ≤ 0) ∧ Orow w' B 38 8 fSt v ds' ∧ w.grownBy w' v.ownBlock := by
  by_cases hne : ds = []
  · subst hne
    obtain ⟨A, cap, hv, -⟩ := hO.slice
    subst hv
    refine (AnyF.slices_SortFunc_none Tryz.sortSt A cap (.func (.func g) #[] cb) w).mono ?_
    rintro e w' ⟨rfl, rfl⟩
    exact ⟨rfl, [], List.Perm.refl _, List.Pairwise.nil, hO, ⟨rfl, rfl, rfl, Nat.le_refl _, fun k hk _ => rfl⟩⟩
  · obtain ⟨q, cap, rest, hv, hle, hB, hq, hm, hk, hr⟩ := hO.form hne
    subst hv
    refine (AnyQ.slices_SortFunc Tryz.sortSt 8 (fun w => by kernel_rfl) (fun w => by kernel_rfl) (encK 8 fSt) (fun x => encK_len x) ?_ cf (swo_of hc) g cb q 0 cap ds.toArray w hcall ?_ (holdsK_of_blk hk) hq (by simp; omega)).mono ?_
    · intro x u hu
      unfold encK at hu
      obtain ⟨m, hm, rfl⟩ := List.mem_map.1 hu
      exact fSt_one x m
    · intro m os dk hs x y
      exact hcmp _ x y
    · rintro e w' ⟨rfl, d', n, os, hp, hs, rfl⟩
      have hp2 := permIn_list hp
      have hs2 := sortedIn_list (d := d') (by rw [hp.1]; exact hs)
      have hl2 : d'.toList.length = ds.length := by simpa using hp2.length_eq
      refine ⟨rfl, d'.toList, by simpa using hp2, hs2.imp (fun {a b} h => ?_), ?_, grown_sortWorldK _ _ _ _ _⟩
      · unfold ltOf at h
        rw [decide_eq_false_iff_not] at h
        have := hc.swap a b
        omega
      · have := kblk_sortWorldK (ds' := d'.toList) hk hl2 n os
        have h2 := Orow.of_blk this hB hm (by rw [hl2]; exact hle) (by rw [hl2]; exact hr)
        rw [hl2] at h2
        simpa using h2
theorem growSt (n : Nat) (hn : n ≤ 1000000) (w : World) :
    Calls Tryz.prog 59 #[.slice none 0 0, .int .i64 n] w fun e w' => ∃ v, e = .returned v ∧ Orow w' w.heap.size 38 8 fSt v [] ∧ Below w.heap.size w w' := by
  obtain ⟨i0, hi0, hz0, hz1, hz2⟩ := info_parts infoSt
  by_cases h0 : n = 0
  · subst h0
    refine (Any8.slices_Grow_room Tryz.growSt none 0 0 0 w (by omega) (by omega) (by omega) (by omega)).mono ?_
    rintro e w' ⟨rfl, rfl⟩
    exact ⟨_, rfl, Orow.nil _ _ _ _ _, Below.refl _ _⟩
  · refine (Any8.slices_Grow_grow Tryz.growSt i0 _ hi0 hz0 (by omega) none 0 0 n [] w (by omega) (by omega) (by rw [hz2]; omega) (by omega) (by simp) (fun _ => rfl) (fun a h => by cases h)).mono ?_
    rintro e w' ⟨rfl, rfl⟩
    refine ⟨_, rfl, ⟨rfl, Or.inr ⟨w.heap.size, _, _, rfl, Nat.le_refl _, heap_at (by rfl), Nat.zero_le _, grownCap_le_maxLen _ _ _ _ (by simp only [maxLen]; omega), ?_, rfl⟩⟩, ?_⟩
    · have := grownCap_ge w (0 + n) 0 38
      show _ = grownCap w (0 + n) 0 38 * 8
      simp only [Array.size_append, size_zeroCells]
      show 0 + (0 + n - 0) * 8 + (grownCap w (0 + n) 0 38 - (0 + n)) * 8 = _
      omega
    · exact ((Below.refl _ w).drew).alloc (Nat.le_refl _) _
end Go.Proofs.YtmlpfbffecdepaaGreatDoor

/- slices.Concat at statements. -/
namespace Go.Proofs.YtmlpfbffecdepaaGreatDoor
set_option linter.unusedVariables false
open Go.RowKit
theorem run_append_none {P : Program} {w : World} (base : Nat) (t ty e : TypeId) (i : TypeInfo) (size : Nat) (ht : P.underlying t = some (.slice e)) (hi : P.info? e = some i)
    (v : Value) (n : Nat) (xs : List Value) (hown : w.ownsRow base e size v n xs) (c : Nat) :
    (Builtin.append_ #[t, t] ty #[v, .slice none 0 c]).run P w = .ok v w := by
  rcases hown.2 with ⟨rfl, rfl⟩ | ⟨g, cap, cur, rfl, _, _, hnc, _⟩
  · simp [Builtin.append_, run_underlying ht, sizeOf, typeInfo, hi, Builtin.lenOf, Builtin.firstCells]
  · simp [Builtin.append_, run_underlying ht, sizeOf, typeInfo, hi, Builtin.lenOf, Builtin.firstCells, hnc, storeCells]
/-- 'v = append(v, xs...)', v of the call's own, xs a row in memory that is laid for good. -/
theorem wpList_rows {D : Type} {P : Program} {wr : World} {ops : Array Oper} {rest : List Oper} {o : Oper} {a : Act} {Q : Exit → Act → World → Prop} (hgd : o.guard = none) (s x : Operand) (t : TypeId)
    (ho : o.op = .call { callee := .builtin .append, args := #[s, x], argTypes := #[t, t] })
    (B : Nat) (e : TypeId) (i : TypeInfo) (z : Value) (k bytes : Nat) (ht : P.underlying t = some (.slice e)) (hi : P.info? e = some i) (hz : i.zero = some z)
    (hsize : i.size = k) (hby : i.bytes = bytes) (hzs : z.cells.size = k) (hsz : 0 < k)
    (f : D → Nat → Value) (v : Value) (ds : List D) (hs : a.eval s = v) (hown : Orow wr B e k f v ds)
    (H : Frz) (hH : H.In wr) (A : Option Addr) (cap : Nat) (ds2 : List D) (hR : Rw H A k f ds2) (hx : a.eval x = .slice A ds2.length cap) (h1 : ∀ d ∈ ds2, ∀ m, (f d m).oneCell' = true)
    (hn : ds.length + ds2.length ≤ 4294967296) (hbytes : bytes ≤ 4096) (hB : B ≤ wr.heap.size)
    (h : ∀ v' w', Orow w' B e k f v' (ds ++ ds2) → wr.grownBy w' v.ownBlock → (v'.ownBlock = v.ownBlock ∨ v'.ownBlock = some wr.heap.size) → wpList P ops Q rest (a.put o.dst v') w') :
    wpList P ops Q (o :: rest) a wr := by
  cases A with
  | none =>
    have hz2 : ds2 = [] := by
      cases ds2 with
      | nil => rfl
      | cons d ds2 => obtain ⟨b, off, e, _⟩ := hR 0 (by simp); cases e
    subst hz2
    refine wpList_plain hgd fun K hK => ?_
    have hrun := run_append_none (P := P) (w := wr) B t o.type e i k ht hi v _ _ hown cap
    unfold Oper.wp
    simp only [List.length_nil] at hx
    simp [execOp, ho, resolve, invoke, builtin, hs, hx, hrun, Result.andThen]
    exact hK _ _ (h v wr (by rw [List.append_nil]; exact hown) ⟨rfl, rfl, rfl, Nat.le_refl _, fun _ _ _ => rfl⟩ (Or.inl rfl))
  | some ad =>
    refine wpList_append_own_at _ hgd s x t ho B e i z k bytes ht hi hz hsize hby hzs hsz v ds.length _ hs hown ad ds2.length cap (cellsOf k f ds2) hx (cellsOf_len _ _ _) ?_ ?_ (by simp only [maxLen]; omega) ?_ hB ?_
    · intro j u hu
      have hj : j < ds2.length * k := by have := (List.getElem?_eq_some_iff.1 hu).1; rwa [cellsOf_len] at this
      have hjk : j / k < ds2.length := (Nat.div_lt_iff_lt_mul hsz).2 hj
      obtain ⟨b, off, e, _, hc⟩ := hR.at_ hH hjk hsz
      injection e with e
      subst e
      have h2 := hc (j % k) (Nat.mod_lt _ hsz)
      have h3 := cellsOf_get k f ds2 (j / k) (j % k) hjk (Nat.mod_lt _ hsz)
      have e1 : j / k * k + j % k = j := Nat.div_add_mod' j k
      rw [e1, hu] at h3
      rw [Addr.add_lit, show off + j = off + j / k * k + j % k from by omega, h2]
      exact h3.symm
    · intro u hu
      simp only [cellsOf, List.mem_flatMap, List.mem_map] at hu
      obtain ⟨d, hd, m, _, rfl⟩ := hu
      exact h1 d hd m
    · have : (ds.length + ds2.length) * bytes ≤ 4294967296 * 4096 := Nat.mul_le_mul hn hbytes
      omega
    · intro v' w' ho' hg' _ hat
      refine h v' w' ?_ hg' hat
      show World.ownsRow _ _ _ _ _ _ _
      rw [cellsOf_split, List.length_append]
      exact ho'
structure SlD where
  A : Option Addr
  cap : Nat
  l : List StD
def fSl (d : SlD) (_ : Nat) : Value := .slice d.A d.l.length d.cap
def catF (ls : List SlD) : List StD := ls.flatMap fun d => d.l
theorem catF_succ {ls : List SlD} {i : Nat} (h : i < ls.length) : catF (ls.take (i + 1)) = catF (ls.take i) ++ ls[i].l := by
  unfold catF
  rw [List.take_succ_eq_append_getElem h, List.flatMap_append]
  simp
theorem catF_le (ls : List SlD) (i : Nat) : (catF (ls.take i)).length ≤ (catF ls).length := by
  unfold catF
  conv => rhs; rw [← List.take_append_drop i ls, List.flatMap_append, List.length_append]
  omega
set_option maxHeartbeats 4000000 in
set_option maxRecDepth 100000 in
theorem concat_St (H : Frz) (A3 : Option Addr) (cap3 : Nat) (ls : List SlD) (w : World) (hH : H.In w) (hR3 : Rw H A3 1 fSl ls) (hR : ∀ d ∈ ls, Rw H d.A 8 fSt d.l) (hl : ls.length ≤ 1000) (hl2 : (catF ls).length ≤ 1000000) :
    Calls Tryz.prog 31 #[.slice A3 ls.length cap3] w fun e w' => (∃ v, e = .returned v ∧ Orow w' w.heap.size 38 8 fSt v (catF ls)) ∧ Below w.heap.size w w' := by
  obtain ⟨i0, hi0, hz0, hz1, hz2⟩ := info_parts infoSt
  have HH := Lib.hid hH
  have HR3 := Lib.hid hR3
  have HR := Lib.hid hR
  have HL2 := Lib.hid hl2
  clear hH hR3 hR hl2
  go_enter Tryz.func31, Tryz.ntmps31
  go_wp2_with fail
  go_loopw [3, 5, 11] (fun t3 _ t11 wr => ∃ i : Nat, i ≤ ls.length ∧ t3 = .int .i64 (catF (ls.take i)).length ∧ t11 = .int .i64 i ∧ wr = w) (fun _ _ t _ => ls.length - (intOf t).toNat)
  case atStart => exact ⟨0, by omega, rfl, rfl, rfl⟩
  case round =>
    obtain ⟨i, hi, rfl, rfl, rfl⟩ := hrel
    by_cases hlt : i < ls.length
    · obtain ⟨b, off, rfl, hbl, hc⟩ := HR3.out.at_ HH.out hlt (by omega)
      have c0 : wr.cell? ⟨b, off + i, none⟩ = some (.slice ls[i].A ls[i].l.length ls[i].cap) := by
        have := hc 0 (by omega)
        rw [show off + i * 1 + 0 = off + i from by omega] at this
        exact this
      have hs1 := catF_succ hlt
      have hle : (catF (ls.take (i + 1))).length ≤ 1000000 := Nat.le_trans (catF_le ls (i + 1)) HL2.out
      rw [hs1, List.length_append] at hle
      have HN : Hid ((catF (ls.take (i + 1))).length = (catF (ls.take i)).length + ls[i].l.length) := by show _ = _; rw [hs1, List.length_append]
      clear hc hs1
      generalize ls[i] = d at *
      generalize (catF (ls.take i)).length = n at *
      have hneg : decide (((n : Int) + (d.l.length : Int)) < 0) = false := by simp; omega
      go_wp2_with fail
      go_roundw
      case rel => exact ⟨i + 1, by omega, by rw [HN.out]; go_num, by go_num, by first | rfl | trivial⟩
      case measure => simp [intOf]; omega
    · have hie : i = ls.length := by omega
      subst hie
      rw [List.take_length]
      obtain ⟨w0, rfl⟩ : ∃ w0 : World, w0 = wr := ⟨_, rfl⟩
      go_wp2_with fail
      refine (growSt (catF ls).length HL2.out w0).mono ?_
      rintro e W1 ⟨v1, rfl, hO1, hb1⟩
      have HO1 := Lib.hid hO1
      have HB1 := Lib.hid hb1
      clear hO1 hb1
      go_wp2_with fail
      go_loopw [6, 8, 27] (fun t6 _ t27 wq => ∃ (i : Nat), i ≤ ls.length ∧ t27 = .int .i64 i ∧ Hid (Orow wq w0.heap.size 38 8 fSt t6 (catF (ls.take i))) ∧ Hid (Below w0.heap.size w0 wq)) (fun _ _ t _ => ls.length - (intOf t).toNat)
      case atStart => exact ⟨0, by omega, rfl, HO1, HB1⟩
      case round =>
        obtain ⟨i, hi, rfl, hO, hB⟩ := hrel
        clear HO1 HB1
        by_cases hlt : i < ls.length
        · have hin := HH.out.below hB.out
          obtain ⟨b, off, rfl, hbl, hc⟩ := HR3.out.at_ hin hlt (by omega)
          have c0 := hc 0 (by omega)
          rw [show off + i * 1 + 0 = off + i from by omega] at c0
          unfold fSl at c0
          have HS1 := Lib.hid (catF_succ hlt)
          have hle : (catF (ls.take (i + 1))).length ≤ 1000000 := Nat.le_trans (catF_le ls (i + 1)) HL2.out
          rw [HS1.out, List.length_append] at hle
          have hRi := Lib.hid (HR.out _ (List.getElem_mem hlt))
          have HIN := Lib.hid hin
          clear hc hin
          generalize ls[i] = d at *
          go_wp2_with (at_builtin; refine wpList_rows rfl _ _ 28 rfl _ 38 i0 (.agg #[.int .i64 0, .int .i64 0, .int .i64 0, .string ⟨#[]⟩, .string ⟨#[]⟩, .string ⟨#[]⟩, .int .i64 0, .int .i64 0]) 8 88 Tryz.underlying28 hi0 hz0 hz1 hz2 rfl (by decide) fSt _ _ rfl hO.out H HIN.out d.A d.cap d.l hRi.out rfl (fun d _ m => fSt_one d m) (by omega) (by omega) hB.out.size ?_; intro v2 w2 o2 g2 at2)
          have HO2 : Hid (Orow w2 w0.heap.size 38 8 fSt v2 (catF (ls.take (i + 1)))) := by
            show Orow _ _ _ _ _ _ _
            rw [HS1.out]
            exact o2
          have HB2 : Hid (Below w0.heap.size w0 w2) := hB.out.grown g2 hB.out.size (fun q hq => (hO.out.lt hq).1)
          clear o2 g2 at2 hO hB
          go_wp2_with fail
          go_roundw
          case rel => exact ⟨i + 1, by omega, by go_num, HO2, HB2⟩
          case measure => simp [intOf]; omega
        · have hie : i = ls.length := by omega
          subst hie
          rw [List.take_length] at hO
          go_wp2_with fail
          go_ret
          exact ⟨⟨_, rfl, hO.out⟩, hB.out⟩
end Go.Proofs.YtmlpfbffecdepaaGreatDoor

/- slices.Equal of two rows that hold the same statements. -/
namespace Go.Proofs.YtmlpfbffecdepaaGreatDoor
set_option linter.unusedVariables false
open Go.RowKit
set_option maxHeartbeats 2000000 in
set_option maxRecDepth 100000 in
theorem equal_St (H : Frz) (A : Option Addr) (cap : Nat) (A2 : Option Addr) (cap2 : Nat) (ds : List StD) (w : World) (hH : H.In w) (hR : Rw H A 8 fSt ds) (hR2 : Rw H A2 8 fSt ds) (hl : ds.length ≤ 1000000) :
    Calls Tryz.prog 14 #[.slice A ds.length cap, .slice A2 ds.length cap2] w fun e w' => e = .returned (.bool true) ∧ Below w.heap.size w w' := by
  have HR := Lib.hid hR
  have HR2 := Lib.hid hR2
  have HIN := Lib.hid hH
  have k0 : ((ds.length : Int) != (ds.length : Int)) = false := by simp
  clear hR hR2 hH
  go_enter Tryz.func14, Tryz.ntmps14
  go_wp2_with fail
  clear k0
  go_loopw [5, 13] (fun _ t wr => ∃ i : Nat, i ≤ ds.length ∧ t = .int .i64 i ∧ Hid (Below w.heap.size w wr)) (fun _ t _ => ds.length - (intOf t).toNat)
  case atStart => exact ⟨0, by omega, rfl, Below.refl _ _⟩
  case round =>
    obtain ⟨i, hi, rfl, hb⟩ := hrel
    by_cases hlt : i < ds.length
    · obtain ⟨b, off, rfl, hbl, hc⟩ := HR.out.at_ (HIN.out.below hb.out) hlt (by omega)
      obtain ⟨b2, off2, rfl, hbl2, hc2⟩ := HR2.out.at_ (HIN.out.below hb.out) hlt (by omega)
      have c0 : wr.cell? ⟨b, off + i * 8, none⟩ = some (.int .i64 ds[i].no) := hc 0 (by omega)
      have c1 : wr.cell? ⟨b, off + i * 8 + 1, none⟩ = some (.int .i64 ds[i].at_) := hc 1 (by omega)
      have c2 : wr.cell? ⟨b, off + i * 8 + 2, none⟩ = some (.int .i64 ds[i].kind) := hc 2 (by omega)
      have c3 : wr.cell? ⟨b, off + i * 8 + 3, none⟩ = some (.string ds[i].text) := hc 3 (by omega)
      have c4 : wr.cell? ⟨b, off + i * 8 + 4, none⟩ = some (.string ds[i].purp) := hc 4 (by omega)
      have c5 : wr.cell? ⟨b, off + i * 8 + 5, none⟩ = some (.string ds[i].region) := hc 5 (by omega)
      have c6 : wr.cell? ⟨b, off + i * 8 + 6, none⟩ = some (.int .i64 ds[i].ch) := hc 6 (by omega)
      have c7 : wr.cell? ⟨b, off + i * 8 + 7, none⟩ = some (.int .i64 ds[i].what) := hc 7 (by omega)
      have hd := hc2
      clear hc
      have d0 : wr.cell? ⟨b2, off2 + i * 8, none⟩ = some (.int .i64 ds[i].no) := hd 0 (by omega)
      have d1 : wr.cell? ⟨b2, off2 + i * 8 + 1, none⟩ = some (.int .i64 ds[i].at_) := hd 1 (by omega)
      have d2 : wr.cell? ⟨b2, off2 + i * 8 + 2, none⟩ = some (.int .i64 ds[i].kind) := hd 2 (by omega)
      have d3 : wr.cell? ⟨b2, off2 + i * 8 + 3, none⟩ = some (.string ds[i].text) := hd 3 (by omega)
      have d4 : wr.cell? ⟨b2, off2 + i * 8 + 4, none⟩ = some (.string ds[i].purp) := hd 4 (by omega)
      have d5 : wr.cell? ⟨b2, off2 + i * 8 + 5, none⟩ = some (.string ds[i].region) := hd 5 (by omega)
      have d6 : wr.cell? ⟨b2, off2 + i * 8 + 6, none⟩ = some (.int .i64 ds[i].ch) := hd 6 (by omega)
      have d7 : wr.cell? ⟨b2, off2 + i * 8 + 7, none⟩ = some (.int .i64 ds[i].what) := hd 7 (by omega)
      clear hc2 hd
      generalize ds[i] = y at *
      go_wp2_with fail
      go_quiet (fail)
      have HB1 := Lib.hid (fun n => below_drewN hb.out n)
      go_wp2_with fail
      go_roundw
      case rel => exact ⟨i + 1, by omega, by go_num, Lib.hid (HB1.out _)⟩
      case measure => simp [intOf]; omega
    · have hie : i = ds.length := by omega
      subst hie
      go_wp2_with fail
      go_ret
      exact ⟨rfl, hb.out⟩
end Go.Proofs.YtmlpfbffecdepaaGreatDoor
