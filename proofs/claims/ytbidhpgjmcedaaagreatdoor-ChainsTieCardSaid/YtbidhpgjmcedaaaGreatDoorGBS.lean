/- Texts of this claim, put together: QueW, CopyK, RepI. -/
import Derived.Test.YtbidhpgjmcedaaaGreatDoorGBR
import Derived.Test.YtbidhpgjmcedaaaGreatDoorGAB
import Derived.Test.YtbidhpgjmcedaaaGreatDoorGAH
import Derived.Test.YtbidhpgjmcedaaaGreatDoorGAE
import Derived.Laws.CopyOwn
import Derived.Test.YtbidhpgjmcedaaaGreatDoorGAI
import Derived.Test.YtbidhpgjmcedaaaGreatDoorGAJ
import Derived.Test.YtbidhpgjmcedaaaGreatDoorGAA
/- Append onto a queue of ints. -/
namespace Go.Proofs.YtbidhpgjmcedaaaGreatDoor
set_option linter.unusedVariables false
open Go.RowKit
theorem wpList_que {w : World} {ops : Array Oper} {rest : List Oper} {o : Oper} {a : Act} {Q : Exit → Act → World → Prop} (hgd : o.guard = none) (s x : Operand)
    (hop : o.op = Op.call { callee := Callee.builtin Builtin.append, args := #[s, x], argTypes := #[22, 22] })
    {B b off cap : Nat} {xs : List Int} (h : QueS B b off cap xs w) (hB : B ≤ w.heap.size) (hs : a.eval s = .slice (some ⟨b, off, none⟩) xs.length cap) (z : Int) (hx : a.eval x = .slice (some ⟨w.heap.size, 0, none⟩) 1 1) (hl : xs.length ≤ 1000000)
    (hK : ∀ b' off' cap' w', QueS B b' off' cap' (xs ++ [z]) w' → w.grownBy w' (some b) → (b' = b ∨ w.heap.size < b') → wpList Tryz.prog ops Q rest (a.put o.dst (.slice (some ⟨b', off', none⟩) (xs.length + 1) cap')) w') :
    wpList Tryz.prog ops Q (o :: rest) a (w.alloc (.cells #[.int .i64 z] 3)) := by
  obtain ⟨i0, hi0, hz0, hz1, hz2⟩ := info_parts (show (Tryz.prog.info? 3).map (fun i => (i.zero, i.size, i.bytes)) = some (some (.int .i64 0), 1, 8) by kernel_rfl)
  have hn1 := new1 (w := w) (.cells #[.int .i64 z] 3)
  have h1 := h.below hn1
  have hbl := h.lt
  refine wpList_append_arg (w.alloc (.cells #[.int .i64 z] 3)) hgd s x 22 hop 3 i0 (.int .i64 0) 1 8 Tryz.underlying22 hi0 hz0 hz1 hz2 rfl (by decide) b off xs.length cap (xs.map (Value.int .i64)) hs (by simp) (fun j u hu => ?_) ⟨w.heap.size, 0, none⟩ 1 1 [.int .i64 z] hx rfl (fun j u hu => ?_) (by simp [Value.oneCell']) (fun hr j hj => ?_) (by simp only [maxLen]; omega) (by omega) (fun hr => ?_) (fun hr v' w' hown hgr => ?_)
  · rw [List.getElem?_map] at hu
    cases e : xs[j]? with
    | none => rw [e] at hu; cases hu
    | some y =>
      rw [e] at hu
      obtain rfl := Option.some.inj hu
      exact h1.cell j y e
  · have : j = 0 := by have := (List.getElem?_eq_some_iff.1 hu).1; simpa using this
    subst this
    rw [Addr.add_lit]
    exact (newc 0 rfl).trans hu
  · have : j = 0 := by simpa using hj
    subst this
    rw [Nat.mul_one]
    exact h1.spare hr
  · rw [Nat.mul_one]
    refine hK b off cap _ (h1.room hr z) ⟨hn1.os, hn1.tape, hn1.output, ?_, fun k hk hne => ?_⟩ (Or.inl rfl)
    · exact Nat.le_trans hn1.size (by simp [World.setCell, World.setCells])
    · exact (Below.heap_setCell _ _ _ k (fun e => hne (by rw [e]))).trans (hn1.block k hk)
  · have e : xs.map (Value.int .i64) ++ [Value.int .i64 z] = (xs ++ [z]).map (Value.int .i64) := by simp
    rw [e] at hown
    obtain ⟨b', cap', rfl, hQ⟩ := QueS.own hown (by simp)
    have hg2 : w.grownBy w' (some b) := ⟨hgr.os.trans hn1.os, hgr.tape.trans hn1.tape, hgr.output.trans hn1.output, Nat.le_trans hn1.size hgr.size, fun k hk hne => (hgr.block k (Nat.lt_of_lt_of_le hk hn1.size) (by simp)).trans (hn1.block k hk)⟩
    have hge := hQ.ge
    have hsz : (w.alloc (.cells #[.int .i64 z] 3)).heap.size = w.heap.size + 1 := by simp
    have := hK b' 0 cap' w' ⟨by omega, hQ.le, hQ.blk⟩ hg2 (Or.inr (by omega))
    simpa using this
end Go.Proofs.YtbidhpgjmcedaaaGreatDoor

/- The builtin copy at elements of several cells. -/
namespace Go.Proofs.YtbidhpgjmcedaaaGreatDoor
set_option linter.unusedVariables false
open Go.RowKit
theorem run_copy_rowK {P : Program} (w : World) (dT sT ty elem : TypeId) (k n : Nat) (g o dLen dCap : Nat) (a : Addr) (sLen sCap : Nat) (cur : Array Value) (t : TypeId) (cs : List Value)
    (hu : P.underlying dT = some (.slice elem)) (hs : (P.info? elem).map (·.size) = some k)
    (hg : w.heap[g]? = some (.cells cur t (0, 0))) (hn : n = Nat.min sLen dLen) (hl : cs.length = n * k)
    (hsrc : ∀ j v, cs[j]? = some v → w.cell? (a.add j) = some v) (hfit : o + cs.length ≤ cur.size) (h1 : ∀ v ∈ cs, v.oneCell' = true) :
    (Builtin.copy_ #[dT, sT] ty #[.slice (some ⟨g, o, none⟩) dLen dCap, .slice (some a) sLen sCap]).run P w =
      .ok (goInt n) (w.setRow g (cur.toList.take o ++ cs ++ cur.toList.drop (o + cs.length)).toArray) := by
  have hld := run_loadCells_list (P := P) w a cs hsrc
  have hst := run_storeCells_at P g o t cs 0 cur w hg (by simpa using hfit) h1
  rw [hl] at hld
  cases hq : P.info? elem with
  | none => simp [hq] at hs
  | some i =>
    have hi : i.size = k := by simpa [hq] using hs
    simp [Builtin.copy_, run_underlying hu, Builtin.lenOf, Builtin.firstCells, sizeOf, typeInfo, hq, hi, ← hn, hld, hst]
section
variable {D : Type} {w : World} {g T k : Nat} {f : D → Nat → Value} {ds es : List D} {rest : List Value}
theorem run_copy_blk {P : Program} (dT sT ty elem : TypeId) (o dLen dCap : Nat) (a : Addr) (sLen sCap : Nat)
    (hu : P.underlying dT = some (.slice elem)) (hs : (P.info? elem).map (·.size) = some k)
    (hg : KBlk w g T k f ds rest) (hn : es.length = Nat.min sLen dLen)
    (hsrc : ∀ j v, (cellsOf k f es)[j]? = some v → w.cell? (a.add j) = some v) (hfit : o + es.length ≤ ds.length) (h1 : ∀ v ∈ cellsOf k f es, v.oneCell' = true) :
    ∃ w', (Builtin.copy_ #[dT, sT] ty #[.slice (some ⟨g, o * k, none⟩) dLen dCap, .slice (some a) sLen sCap]).run P w = .ok (goInt es.length) w' ∧
      KBlk w' g T k f (ds.take o ++ es ++ ds.drop (o + es.length)) rest ∧ w.grownBy w' (some g) := by
  have hlen : (cellsOf k f es).length = es.length * k := cellsOf_len k f es
  have hfit2 : o * k + (cellsOf k f es).length ≤ (cellsOf k f ds ++ rest).toArray.size := by
    have := Nat.mul_le_mul_right k hfit
    rw [Nat.add_mul] at this
    simp [cellsOf_len]
    omega
  refine ⟨_, run_copy_rowK w dT sT ty elem k es.length g (o * k) dLen dCap a sLen sCap _ T (cellsOf k f es) hu hs hg hn hlen hsrc hfit2 h1, ?_, ?_⟩
  · unfold KBlk
    have hh := setRow_heap w g _ (((cellsOf k f ds ++ rest).toArray.toList.take (o * k) ++ cellsOf k f es ++ (cellsOf k f ds ++ rest).toArray.toList.drop (o * k + (cellsOf k f es).length)).toArray) T _ hg
    rw [hh]
    congr 3
    have e1 : cellsOf k f ds = cellsOf k f (ds.take o) ++ (cellsOf k f ((ds.drop o).take es.length) ++ cellsOf k f (ds.drop (o + es.length))) := by
      rw [← cellsOf_split, ← cellsOf_split]
      congr 1
      rw [← List.drop_drop, List.take_append_drop, List.take_append_drop]
    have l1 : (cellsOf k f (ds.take o)).length = o * k := by rw [cellsOf_len, List.length_take]; congr 1; omega
    have l2 : (cellsOf k f ((ds.drop o).take es.length)).length = es.length * k := by rw [cellsOf_len]; congr 1; simp; omega
    rw [cellsOf_split, cellsOf_split]
    show List.take (o * k) (cellsOf k f ds ++ rest) ++ cellsOf k f es ++ List.drop (o * k + (cellsOf k f es).length) (cellsOf k f ds ++ rest) = _
    rw [e1, hlen]
    simp only [List.append_assoc]
    rw [List.take_left' l1, ← List.append_assoc (cellsOf k f (ds.take o)) (cellsOf k f ((ds.drop o).take es.length)), List.drop_left' (by rw [List.length_append, l1, l2])]
  · exact ⟨rfl, rfl, rfl, by simp [World.setRow], fun i hi hne => setRow_other w g i _ (fun e => hne (by rw [e]))⟩
/-- 'copy(d, s)' at its operation. -/
theorem wpList_copyK {P : Program} {ops : Array Oper} {r : List Oper} {o : Oper} {a : Act} {Q : Exit → Act → World → Prop} (hgd : o.guard = none) (d s : Operand) (dT sT : TypeId)
    (ho : o.op = .call { callee := .builtin .copy, args := #[d, s], argTypes := #[dT, sT] }) (elem : TypeId) (hu : P.underlying dT = some (.slice elem)) (hsz : (P.info? elem).map (·.size) = some k)
    (off dLen dCap : Nat) (ad : Addr) (sLen sCap : Nat) (hd : a.eval d = .slice (some ⟨g, off * k, none⟩) dLen dCap) (hs : a.eval s = .slice (some ad) sLen sCap)
    (hg : KBlk w g T k f ds rest) (hn : es.length = Nat.min sLen dLen)
    (hsrc : ∀ j v, (cellsOf k f es)[j]? = some v → w.cell? (ad.add j) = some v) (hfit : off + es.length ≤ ds.length) (h1 : ∀ v ∈ cellsOf k f es, v.oneCell' = true)
    (h : ∀ w', KBlk w' g T k f (ds.take off ++ es ++ ds.drop (off + es.length)) rest → w.grownBy w' (some g) → wpList P ops Q r (a.put o.dst (goInt es.length)) w') :
    wpList P ops Q (o :: r) a w := by
  refine wpList_plain hgd fun K hK => ?_
  obtain ⟨w', hrun, h2, h3⟩ := run_copy_blk (P := P) dT sT o.type elem off dLen dCap ad sLen sCap hu hsz hg hn hsrc hfit h1
  unfold Oper.wp
  simp [execOp, ho, resolve, invoke, builtin, hd, hs, hrun, Result.andThen]
  exact hK _ _ (h w' h2 h3)
theorem OpV.copyK {P : Program} {o : Oper} {a : Act} {R : Value → World → Prop} (d s : Operand) (dT sT : TypeId)
    (ho : o.op = .call { callee := .builtin .copy, args := #[d, s], argTypes := #[dT, sT] }) (elem : TypeId) (hu : P.underlying dT = some (.slice elem)) (hsz : (P.info? elem).map (·.size) = some k)
    (off dLen dCap : Nat) (ad : Addr) (sLen sCap : Nat) (hd : a.eval d = .slice (some ⟨g, off * k, none⟩) dLen dCap) (hs : a.eval s = .slice (some ad) sLen sCap)
    (hg : KBlk w g T k f ds rest) (hn : es.length = Nat.min sLen dLen)
    (hsrc : ∀ j v, (cellsOf k f es)[j]? = some v → w.cell? (ad.add j) = some v) (hfit : off + es.length ≤ ds.length) (h1 : ∀ v ∈ cellsOf k f es, v.oneCell' = true)
    (h : ∀ w', KBlk w' g T k f (ds.take off ++ es ++ ds.drop (off + es.length)) rest → w.grownBy w' (some g) → R (goInt es.length) w') : OpV P o a.eval w R := by
  obtain ⟨w', hrun, h2, h3⟩ := run_copy_blk (P := P) dT sT o.type elem off dLen dCap ad sLen sCap hu hsz hg hn hsrc hfit h1
  unfold OpV
  simp [execOp, ho, resolve, invoke, builtin, hd, hs, hrun, Result.andThen]
  exact h w' h2 h3
end
end Go.Proofs.YtbidhpgjmcedaaaGreatDoor

/- slices.Repeat at one int. -/
namespace Go.Proofs.YtbidhpgjmcedaaaGreatDoor
set_option linter.unusedVariables false
open Go.RowKit
theorem infoRI : (Tryz.prog.info? 3).map (fun i => (i.zero, i.size, i.bytes)) = some (some (.int .i64 0), 1, 8) := by kernel_rfl
theorem sizeRI : (Tryz.prog.info? 3).map (·.size) = some 1 := by kernel_rfl
theorem cellsI_one (l : List Int) : ∀ v ∈ cellsOf 1 fI l, v.oneCell' = true := by
  intro v hv
  unfold cellsOf at hv
  obtain ⟨d, _, hv⟩ := List.mem_flatMap.1 hv
  obtain ⟨m, _, rfl⟩ := List.mem_map.1 hv
  rfl
theorem made_I1 {w : World} {B g n : Nat} (h : w.ownsRow B 3 1 (.slice (some ⟨g, 0, none⟩) n n) n (madeCells (Value.int .i64 0).cells (n * 1)).toList) : KBlk w g 3 1 fI (List.replicate n 0) [] := by
  have h1 := made_ints h
  have h2 : (tab n fun _ => 0) = List.replicate n 0 := by
    apply List.ext_getElem (by simp [tab_len])
    intro i h3 h4
    rw [tab_get, List.getElem_replicate]
  rw [h2] at h1
  exact h1
/-- What is so in the loop. -/
structure RepIS (w : World) (g m n : Nat) (p : Int) (wr : World) : Prop where
  bel : Below w.heap.size w wr
  blk : KBlk wr g 3 1 fI (List.replicate n p ++ List.replicate (m - n) (0 : Int)) []
  ge : w.heap.size ≤ g
theorem rep_stepI {n m c : Nat} (p z : Int) (hc : c = Nat.min n (m - n)) (hn : n ≤ m) : (List.replicate n p ++ List.replicate (m - n) z).take n ++ List.replicate c p ++ (List.replicate n p ++ List.replicate (m - n) z).drop (n + c) = List.replicate (n + c) p ++ List.replicate (m - (n + c)) z := by
  have hc2 : c ≤ m - n := by rw [hc]; exact Nat.min_le_right _ _
  rw [List.take_left' (by simp), List.drop_append]
  simp only [List.length_replicate]
  rw [List.drop_of_length_le (by simp), Nat.add_sub_cancel_left, List.drop_replicate, List.nil_append, List.replicate_append_replicate, show m - n - c = m - (n + c) from by omega]
def φRI (g m n c : Nat) (i : Nat) (v : Value) (_ : World) : Prop :=
  match i with
  | 0 => v = .int .i64 (n : Int)
  | 1 => v = .slice (some ⟨g, 0, none⟩) m m
  | 2 => v = .int .i64 (n : Int)
  | 3 => v = .slice (some ⟨g, n, none⟩) (m - n) (m - n)
  | 4 => v = .slice (some ⟨g, 0, none⟩) m m
  | 5 => v = .int .i64 (n : Int)
  | 6 => v = .slice (some ⟨g, 0, none⟩) n m
  | 7 => v = .int .i64 (c : Int)
  | _ => True
/-- The copy has run, or it has not. -/
def JRI (W0 w : World) (g m n : Nat) (p : Int) (L : Array Bool) (_ : Act) (W : World) : Prop := (L.getD 7 false = false → W = W0) ∧ (L.getD 7 false = true → RepIS w g m n p W)
theorem JRI.step {W0 w : World} {g m n : Nat} {p : Int} {L : Array Bool} {a a' : Act} {W : World} (h : JRI W0 w g m n p L a W) {i : Nat} (hi : i ≠ 7) (b : Unit) : JRI W0 w g m n p (L.setIfInBounds i true) a' W := by
  unfold JRI at *
  rw [getD_set_ne false hi]
  exact h
set_option maxHeartbeats 4000000 in
set_option maxRecDepth 100000 in
theorem repeatI_any (b m : Nat) (p : Int) (w : World) (hb : w.heap[b]? = some (.cells #[.int .i64 p] 3 (0, 0))) (hm1 : 1 ≤ m) (hm2 : m ≤ 100) :
    Calls Tryz.prog 199 #[.slice (some ⟨b, 0, none⟩) 1 1, .int .i64 (m : Int)] w fun e w' => (∃ v, e = .returned v ∧ Orow w' w.heap.size 3 1 fI v (List.replicate m p)) ∧ Below w.heap.size w w' := by
  obtain ⟨i0, hi0, hz0, hz1, hz2⟩ := info_parts infoRI
  have HBB := Lib.hid hb
  have HMU := Lib.hid (fun W => Tryz.bits_Mul 1 m (by omega) (by omega) W)
  have e1 : 1 * m / 18446744073709551616 = 0 := by omega
  have e2 : 1 * m % 18446744073709551616 = m := by omega
  rw [e1, e2] at HMU
  have hbl : b < w.heap.size := lt_of_heap hb
  have HMK : Hid (∀ w2 : World, w2.ownsRow w.heap.size 3 1 (.slice (some ⟨w.heap.size, 0, none⟩) m m) m (madeCells (Value.int .i64 0).cells (m * 1)).toList → w.grownBy w2 none → RepIS w w.heap.size m 0 p w2 ∧ w2.heap[b]? = some (.cells #[.int .i64 p] 3 (0, 0))) := by
    intro w2 h1 h2
    have hb2 : Below w.heap.size w w2 := ⟨h2.os, h2.tape, h2.output, h2.size, fun k hk => h2.block k hk (by simp)⟩
    exact ⟨⟨hb2, by simpa using made_I1 h1, Nat.le_refl _⟩, (hb2.block b hbl).trans HBB.out⟩
  clear hb e1 e2
  go_enter Tryz.func199, Tryz.ntmps199
  go_wp2_with fail
  refine (HMU.out _).mono ?_
  rintro e w' ⟨rfl, hw'⟩
  obtain rfl := hw'.symm
  clear HMU hw'
  go_upto_region 7 with (at_make; refine wpList_make_full _ rfl _ _ 22 rfl w.heap.size 3 i0 (.int .i64 0) 1 Tryz.underlying22 hi0 hz0 hz1 _ _ _ _ m rfl rfl rfl rfl (by rw [hz2]; omega) (by simp only [maxLen]; omega) (Nat.le_refl _) ?_; intro w2 hown2 hgrow2; obtain ⟨hj0, hbb⟩ := HMK.out _ hown2 hgrow2; have J0 := Lib.hid hj0; have HB2 := Lib.hid hbb; clear hown2 hgrow2 HMK hj0 hbb)
  have HSRC : Hid (∀ j v, (cellsOf 1 fI [p])[j]? = some v → w2.cell? ((⟨b, 0, none⟩ : Addr).add j) = some v) := by
    intro j v hv
    rw [Addr.add_lit]
    match j with
    | 0 => exact (cell_h HB2.out 0 (v := .int .i64 p) rfl).trans hv
    | j + 1 => simp [cellsOf, List.range_succ] at hv
  have HFST : Hid (∀ w3 : World, KBlk w3 w.heap.size 3 1 fI ((List.replicate 0 p ++ List.replicate (m - 0) (0 : Int)).take 0 ++ [p] ++ (List.replicate 0 p ++ List.replicate (m - 0) (0 : Int)).drop (0 + [p].length)) [] → w2.grownBy w3 (some w.heap.size) → RepIS w w.heap.size m 1 p w3) := by
    intro w3 h1 h2
    refine ⟨J0.out.bel.grown h2 J0.out.bel.size (fun k hk => by injection hk with hk; omega), ?_, Nat.le_refl _⟩
    simpa using h1
  have hsl : w.heap.size ≤ w.heap.size := Nat.le_refl _
  generalize w.heap.size = g at *
  have HN1 : Hid ([p].length = Nat.min 1 m) := by show 1 = min 1 m; omega
  have HF1 : Hid (0 + [p].length ≤ (List.replicate 0 p ++ List.replicate (m - 0) (0 : Int)).length) := by show _ ≤ _; simp; omega
  go_wp2_with (with_reducible refine wpList_copyK (k := 1) (f := fI) (es := [p]) rfl (.tmp 31) (.tmp 32) 22 22 rfl 3 Tryz.underlying22 sizeRI 0 m m ⟨b, 0, none⟩ 1 1 rfl rfl J0.out.blk HN1.out HSRC.out HF1.out (cellsI_one _) ?_; intro w3 hk3 hg3; have J1 := Lib.hid (HFST.out w3 hk3 hg3); clear hk3 hg3 HFST HSRC HN1 HF1)
  clear J0 HB2 HBB
  go_loopw [8] (fun t wr => ∃ n : Nat, 1 ≤ n ∧ n ≤ m ∧ t = .int .i64 n ∧ Hid (RepIS w g m n p wr)) (fun t _ => m - (intOf t).toNat)
  case atStart => exact ⟨1, by omega, by omega, rfl, J1⟩
  case round =>
    obtain ⟨n, hn1, hn2, rfl, J⟩ := hrel
    clear J1
    by_cases hlt : n < m
    · obtain ⟨c, hc⟩ : ∃ c, c = Nat.min n (m - n) := ⟨_, rfl⟩
      have hc2 : 1 ≤ c ∧ c ≤ m - n ∧ c ≤ n := by have hc' : c = min n (m - n) := hc; omega
      obtain ⟨hc2, hc3, hc4⟩ := hc2
      have HSRC : Hid (∀ j v, (cellsOf 1 fI (List.replicate c p))[j]? = some v → wr.drew.cell? ((⟨g, 0, none⟩ : Addr).add j) = some v) := by
        intro j v hv
        rw [Addr.add_lit]
        have hj : j < c * 1 := by have := (List.getElem?_eq_some_iff.1 hv).1; rw [cellsOf_len] at this; simpa using this
        have hl : (List.replicate n p ++ List.replicate (m - n) (0 : Int)).length = m := by simp; omega
        have h1 := cellsOf_get 1 fI (List.replicate c p) (j / 1) (j % 1) (by simp; omega) (Nat.mod_lt _ (by omega))
        rw [Nat.div_add_mod' j 1, hv] at h1
        have h2 := J.out.blk.cell (j / 1) (j % 1) (by rw [hl]; omega) (Nat.mod_lt _ (by omega))
        rw [Nat.div_add_mod' j 1] at h2
        show wr.cell? ⟨g, 0 + j, none⟩ = some v
        rw [Nat.zero_add, h2, List.getElem_append_left (by simp; omega)]
        simp only [List.getElem_replicate] at h1 ⊢
        exact h1.symm
      have HNX : Hid (∀ w3 : World, KBlk w3 g 3 1 fI ((List.replicate n p ++ List.replicate (m - n) (0 : Int)).take n ++ List.replicate c p ++ (List.replicate n p ++ List.replicate (m - n) (0 : Int)).drop (n + (List.replicate c p).length)) [] → wr.drew.grownBy w3 (some g) → RepIS w g m (n + c) p w3) := by
        intro w3 h1 h2
        have hb : Below w.heap.size w wr.drew := J.out.bel.drew
        refine ⟨hb.grown h2 hb.size (fun k hk => by injection hk with hk; have := J.out.ge; omega), ?_, J.out.ge⟩
        rw [List.length_replicate, rep_stepI p 0 hc hn2] at h1
        exact h1
      have HK : Hid (KBlk wr.drew g 3 1 fI (List.replicate n p ++ List.replicate (m - n) (0 : Int)) []) := J.out.blk
      have HN2 : Hid ((List.replicate c p).length = Nat.min n (m - n)) := by show _ = _; rw [List.length_replicate, hc]
      have HF2 : Hid (n + (List.replicate c p).length ≤ (List.replicate n p ++ List.replicate (m - n) (0 : Int)).length) := by show _ ≤ _; simp; omega
      have hlt2 : (n : Int) < (m : Int) := by omega
      have e1 : IntKind.i64.wrap ((n : Int) + (c : Int)) = ((n + c : Nat) : Int) := by rw [show (n : Int) + (c : Int) = ((n + c : Nat) : Int) from by omega]; exact IntWalk.i64_in _ (by omega)
      have E2 : Hid ((n : Int) + (c : Int) = ((n + c : Nat) : Int)) := by show _ = _; omega
      have hnc : n + c ≤ m := by omega
      have hmn : ¬ m = n := by omega
      clear hc J
      go_wp2_with fail
      refine wp_region_concV 8 48 (φRI g m n c) (JRI wr.drew w g m (n + c) p) (fun _ _ => True) (by kernel_rfl) (by kernel_rfl) (by rfl) ⟨fun _ => rfl, fun h => (by rw [getD_replicate_false] at h; cases h)⟩ (fun i x w w' _ _ h => h) (fun i x w hi e _ => absurd e (by have hcs : i = 0 ∨ i = 1 ∨ i = 2 ∨ i = 3 ∨ i = 4 ∨ i = 5 ∨ i = 6 ∨ i = 7 := (by omega); rcases hcs with rfl | rfl | rfl | rfl | rfl | rfl | rfl | rfl <;> decide)) ?_ ?_
      · intro i o hi8 ho a W2 L hr hsN hLs hJ hkn
        have hcs : i = 0 ∨ i = 1 ∨ i = 2 ∨ i = 3 ∨ i = 4 ∨ i = 5 ∨ i = 6 ∨ i = 7 := by omega
        rcases hcs with rfl | rfl | rfl | rfl | rfl | rfl | rfl | rfl
        · obtain rfl := Option.some.inj ho
          refine OpV.mono (R := fun v w' => φRI g m n c 0 v w' ∧ w' = W2) ?_ (fun v w' h => ⟨h.1, h.2 ▸ hJ.step (by decide) (), trivial⟩)
          exact ⟨hkn 8 (by decide), rfl⟩
        · obtain rfl := Option.some.inj ho
          refine OpV.mono (R := fun v w' => φRI g m n c 1 v w' ∧ w' = W2) ?_ (fun v w' h => ⟨h.1, h.2 ▸ hJ.step (by decide) (), trivial⟩)
          exact ⟨hkn 7 (by decide), rfl⟩
        · obtain rfl := Option.some.inj ho
          refine OpV.mono (R := fun v w' => φRI g m n c 2 v w' ∧ w' = W2) ?_ (fun v w' h => ⟨h.1, h.2 ▸ hJ.step (by decide) (), trivial⟩)
          exact ⟨hkn 8 (by decide), rfl⟩
        · obtain rfl := Option.some.inj ho
          refine OpV.mono (R := fun v w' => φRI g m n c 3 v w' ∧ w' = W2) ?_ (fun v w' h => ⟨h.1, h.2 ▸ hJ.step (by decide) (), trivial⟩)
          have h0 := slotv (hkn 39 (by decide) : a.tmps.getD 39 undef = .slice (some ⟨g, 0, none⟩) m m)
          have h1 := slotv (hkn 40 (by decide) : a.tmps.getD 40 undef = .int .i64 (n : Int))
          clear hkn ho
          simp only [OpV, execOp]
          simp [go_sem, h0, h1, hn2, hmn]
          first | exact ⟨rfl, rfl⟩ | exact rfl
        · obtain rfl := Option.some.inj ho
          refine OpV.mono (R := fun v w' => φRI g m n c 4 v w' ∧ w' = W2) ?_ (fun v w' h => ⟨h.1, h.2 ▸ hJ.step (by decide) (), trivial⟩)
          exact ⟨hkn 7 (by decide), rfl⟩
        · obtain rfl := Option.some.inj ho
          refine OpV.mono (R := fun v w' => φRI g m n c 5 v w' ∧ w' = W2) ?_ (fun v w' h => ⟨h.1, h.2 ▸ hJ.step (by decide) (), trivial⟩)
          exact ⟨hkn 8 (by decide), rfl⟩
        · obtain rfl := Option.some.inj ho
          refine OpV.mono (R := fun v w' => φRI g m n c 6 v w' ∧ w' = W2) ?_ (fun v w' h => ⟨h.1, h.2 ▸ hJ.step (by decide) (), trivial⟩)
          have h0 := slotv (hkn 42 (by decide) : a.tmps.getD 42 undef = .slice (some ⟨g, 0, none⟩) m m)
          have h1 := slotv (hkn 43 (by decide) : a.tmps.getD 43 undef = .int .i64 (n : Int))
          clear hkn ho
          simp only [OpV, execOp]
          simp [go_sem, h0, h1, hn2]
          first | exact ⟨rfl, rfl⟩ | exact rfl
        · obtain rfl := Option.some.inj ho
          have hnot := ready_not hr (by show (7 : Nat) < L.size; rw [hLs]; decide)
          obtain rfl := hJ.1 hnot
          have h0 := slotv (hkn 41 (by decide) : a.tmps.getD 41 undef = .slice (some ⟨g, n, none⟩) (m - n) (m - n))
          have h1 := slotv (hkn 44 (by decide) : a.tmps.getD 44 undef = .slice (some ⟨g, 0, none⟩) n m)
          refine OpV.copyK (k := 1) (f := fI) (es := List.replicate c p) (.tmp 41) (.tmp 44) 22 22 rfl 3 Tryz.underlying22 sizeRI n (m - n) (m - n) ⟨g, 0, none⟩ n m (by simpa [Act.eval] using h0) (by simpa [Act.eval] using h1) HK.out HN2.out HSRC.out HF2.out (cellsI_one _) ?_
          intro w3 hk3 hg3
          refine ⟨by rw [List.length_replicate]; rfl, ⟨fun h => ?_, fun _ => HNX.out w3 hk3 hg3⟩, trivial⟩
          rw [getD_set_self (by show (7 : Nat) < L.size; rw [hLs]; decide)] at h
          cases h
      · intro yv W9 L9 hL9 hW9 hgt hφ
        have J3 := Lib.hid (hW9.2 (hL9 7 (by decide)))
        have hφ0 : yv 0 = .int .i64 (n : Int) := by
          rcases hφ 0 (by decide) with h | h
          · exact h
          · exact absurd h.1 (by decide)
        have hφ7 : yv 7 = .int .i64 (c : Int) := by
          rcases hφ 7 (by decide) with h | h
          · exact h
          · exact absurd h.1 (by decide)
        clear hW9 hgt hφ hL9 HNX HSRC HN2 HF2 HK
        simp only [List.drop_succ_cons, List.drop_zero, List.take_succ_cons, List.take_zero, putAll, Nat.reduceAdd, hφ0, hφ7]
        clear hφ0 hφ7
        go_wp2_with fail
        clear e1
        go_roundw
        case rel => exact ⟨n + c, by omega, by omega, by rw [E2.out], J3⟩
        case measure => simp [intOf]; omega
    · have hie : n = m := by omega
      subst hie
      have hF : Hid (Orow wr w.heap.size 3 1 fI (.slice (some ⟨g, 0, none⟩) n n) (List.replicate n p)) := by
        have h1 := J.out.blk
        rw [Nat.sub_self, List.replicate_zero, List.append_nil] at h1
        have := Orow.of_blk (B := w.heap.size) (cap := n) h1 J.out.ge (by simp only [maxLen]; omega) (by simp) (by simp)
        show Orow _ _ _ _ _ _ _
        simpa using this
      go_wp2_with fail
      go_ret
      exact ⟨⟨_, rfl, hF.out⟩, J.out.bel⟩
end Go.Proofs.YtbidhpgjmcedaaaGreatDoor
