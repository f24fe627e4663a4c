/- Texts of this claim, put together: CloneSt, DelP, Glob, ConsN. -/
import Derived.Test.YtmlpfbffecdepaaGreatDoorGA
import Derived.StillTailTactics
import Derived.Deep.Cut
import Derived.Test.YtmlpfbffecdepaaGreatDoorGF
import Derived.OpenShut
import Derived.FnData
import Derived.Shelf.Vars
import Derived.MakeChecks
import Derived.Handed
import Derived.Test.YtmlpfbffecdepaaGreatDoorGE
/- Clone at elements of 8 cells. -/
namespace Go.Proofs.YtmlpfbffecdepaaGreatDoor
set_option linter.unusedVariables false
open Go.RowKit

theorem infoSt : (Tryz.prog.info? 38).map (fun i => (i.zero, i.size, i.bytes)) = some (some (.agg #[.int .i64 0, .int .i64 0, .int .i64 0, .string ⟨#[]⟩, .string ⟨#[]⟩, .string ⟨#[]⟩, .int .i64 0, .int .i64 0]), 8, 88) := by kernel_rfl
section
variable {D : Type}
set_option maxHeartbeats 1000000 in
set_option maxRecDepth 100000 in
theorem clone_St (H : Frz) (f : D → Nat → Value) (ds : List D) (hf : ∀ d ∈ ds, ∀ m, (f d m).oneCell' = true) (A : Option Addr) (cap : Nat) (w : World) (hH : H.In w) (hR : Rw H A 8 f ds) (hl : ds.length ≤ 1000000) :
    Calls Tryz.prog 8 #[.slice A ds.length cap] w fun e w' => (∃ v, e = .returned v ∧ Orow w' w.heap.size 38 8 f v ds) ∧ Below w.heap.size w w' := by
  obtain ⟨i0, hi0, hz0, hz1, hz2⟩ := info_parts infoSt
  cases A with
  | none =>
    have hd : ds = [] := by
      cases ds with
      | nil => rfl
      | cons d ds => obtain ⟨b, off, e, _⟩ := hR 0 (by simp); cases e
    subst hd
    have hn := fun wx => Lib.run_eql_slice_nil (P := Tryz.prog) wx 28 38 none 0 cap 0 0 Tryz.underlying28
    clear hR hH hf
    go_enter Tryz.func8, Tryz.ntmps8
    go_wp2_with fail
    go_ret
    exact ⟨⟨_, rfl, Orow.nil _ _ _ _ _⟩, Below.refl _ _⟩
  | some ad =>
    have hnews : Hid (∀ j u, (cellsOf 8 f ds)[j]? = some u → w.cell? (ad.add j) = some u) := by
      intro j u hu
      have hj : j < ds.length * 8 := by have := (List.getElem?_eq_some_iff.1 hu).1; rwa [cellsOf_len] at this
      obtain ⟨b, off, e, _, hc⟩ := hR.at_ hH (i := j / 8) (by omega) (by omega)
      injection e with e
      subst e
      have h2 := hc (j % 8) (Nat.mod_lt _ (by omega))
      have h3 := cellsOf_get 8 f ds (j / 8) (j % 8) (by omega) (Nat.mod_lt _ (by omega))
      have e1 : j / 8 * 8 + j % 8 = j := by omega
      rw [e1, hu] at h3
      rw [Addr.add_lit, show off + j = off + j / 8 * 8 + j % 8 from by omega, h2]
      exact h3.symm
    have hone : Hid (∀ u ∈ cellsOf 8 f ds, u.oneCell' = true) := by
      intro u hu
      simp only [cellsOf, List.mem_flatMap, List.mem_map] at hu
      obtain ⟨d, hd, m, _, rfl⟩ := hu
      exact hf d hd m
    have hlen := Lib.hid (cellsOf_len 8 f ds)
    have hn := fun wx => Lib.run_eql_slice_nil (P := Tryz.prog) wx 28 38 (some ad) ds.length cap 0 0 Tryz.underlying28
    have hown : Hid ((w.alloc (.cells #[] 38)).ownsRow w.heap.size 38 8 (.slice (some ⟨w.heap.size, 0, none⟩) 0 0) 0 []) := ⟨rfl, Or.inr ⟨w.heap.size, 0, #[], rfl, Nat.le_refl _, heap_at rfl, Nat.le_refl _, Nat.zero_le _, rfl, rfl⟩⟩
    have hnews2 : Hid (∀ j u, (cellsOf 8 f ds)[j]? = some u → (w.alloc (.cells #[] 38)).cell? (ad.add j) = some u) := fun j u hu => by
      have := hnews.out j u hu
      exact (World.cell?_alloc_lt w _ _ (World.block_lt_of_cell? w _ this)).trans this
    clear hR hH hf hnews
    go_enter Tryz.func8, Tryz.ntmps8
    go_wp2_with (at_builtin; refine wpList_append_own _ rfl _ _ 28 rfl w.heap.size 38 i0 (.agg #[.int .i64 0, .int .i64 0, .int .i64 0, .string ⟨#[]⟩, .string ⟨#[]⟩, .string ⟨#[]⟩, .int .i64 0, .int .i64 0]) 8 88 Tryz.underlying28 hi0 hz0 hz1 hz2 rfl (by decide) (.slice (some ⟨w.heap.size, 0, none⟩) 0 0) 0 [] rfl hown.out ad ds.length cap (cellsOf 8 f ds) rfl hlen.out hnews2.out hone.out (by simp only [maxLen]; omega) (by omega) (by simp) ?_; intro v1 w2 o1 g1 b1)
    have O1 : Hid (Orow w2 w.heap.size 38 8 f v1 ds) := by
      show World.ownsRow _ _ _ _ _ _ _
      simpa using o1
    have B1 : Hid (Below w.heap.size w w2) := ((Below.refl _ w).alloc (Nat.le_refl _) _).grown g1 (by simp) (fun q hq => by simp [Value.ownBlock] at hq; omega)
    clear o1 g1 b1
    go_wp2_with fail
    go_ret
    exact ⟨⟨_, rfl, O1.out⟩, B1.out⟩
end
end Go.Proofs.YtmlpfbffecdepaaGreatDoor

/- Delete in place: the list in the making. -/
namespace Go.Proofs.YtmlpfbffecdepaaGreatDoor
set_option linter.unusedVariables false
open Go.RowKit
structure DelOk {D : Type} (p : D → Bool) (ds cur : List D) (i j : Nat) : Prop where
  len : cur.length = ds.length
  le : i < j
  lt : j ≤ ds.length
  low : cur.take i = (ds.take j).filter (fun d => !p d)
  high : cur.drop j = ds.drop j
section
variable {D : Type} {p : D → Bool} {ds cur : List D} {i j : Nat}
theorem DelOk.at_ (h : DelOk p ds cur i j) (hj : j < ds.length) : cur[j]'(by rw [h.len]; exact hj) = ds[j] := by
  have e := congrArg (fun l => l[0]?) h.high
  simp only [List.getElem?_drop, Nat.add_zero] at e
  rw [List.getElem?_eq_getElem (by rw [h.len]; exact hj), List.getElem?_eq_getElem hj] at e
  exact Option.some.inj e
theorem DelOk.drop (h : DelOk p ds cur i j) (hj : j < ds.length) (hp : p ds[j] = true) : DelOk p ds cur i (j + 1) := by
  refine ⟨h.len, by have := h.le; omega, hj, ?_, ?_⟩
  · rw [List.take_succ_eq_append_getElem hj, List.filter_append, h.low]
    simp [hp]
  · rw [← List.drop_drop, h.high, List.drop_drop]
theorem DelOk.keep (h : DelOk p ds cur i j) (hj : j < ds.length) (hp : p ds[j] = false) : DelOk p ds (cur.set i ds[j]) (i + 1) (j + 1) := by
  have hle := h.le
  have hl := h.len
  refine ⟨by simp [hl], by omega, hj, ?_, ?_⟩
  · rw [List.take_succ_eq_append_getElem (by simp; omega), List.take_set_of_le (Nat.le_refl _), h.low, List.take_succ_eq_append_getElem hj, List.filter_append]
    simp [hp]
  · rw [List.drop_set_of_lt (by omega), ← List.drop_drop, h.high, List.drop_drop]
theorem DelOk.done (h : DelOk p ds cur i ds.length) : cur.take i = ds.filter (fun d => !p d) := by rw [h.low, List.take_length]
theorem DelOk.start (hj : j < ds.length) (h : ∀ m (hm : m < j), p (ds[m]'(by omega)) = false) (hp : p ds[j] = true) : DelOk p ds ds j (j + 1) := by
  refine ⟨rfl, by omega, hj, ?_, rfl⟩
  rw [List.take_succ_eq_append_getElem hj, List.filter_append]
  have : (ds.take j).filter (fun d => !p d) = ds.take j := by
    rw [List.filter_eq_self]
    intro a ha
    obtain ⟨m, hm, rfl⟩ := List.getElem_of_mem ha
    simp only [List.length_take] at hm
    rw [List.getElem_take, h m (by omega)]
    rfl
  rw [this]
  simp [hp]
end
end Go.Proofs.YtmlpfbffecdepaaGreatDoor

/- What the listed variables hold when a law begins: the pool of ids; a number of the library's. The wrap of a row over listed variables, the world's shape kept. -/
namespace Go.Proofs.YtmlpfbffecdepaaGreatDoor
set_option linter.unusedVariables false
open Go.RowKit
/-- All the memory of a world. -/
def memH (w : World) : Frz := fun b => w.heap[b]?
theorem memH_in (w : World) : (memH w).In w := fun b o h => h
theorem memH_cell {w : World} {b o : Nat} {v : Value} (h : w.cell? ⟨b, o, none⟩ = some v) : (memH w).cell? ⟨b, o, none⟩ = some v := by
  unfold Frz.cell? memH
  simp only [World.cell?] at h ⊢
  split at h <;> simp_all
def VarHolds (P : Program) (w : World) (n : String) (d : DataW Unit) : Prop :=
  ∃ g t cs fuel p, P.globalNamed n = some g ∧ (P.globals[g]?).map (·.type) = some t ∧ w.var? P n = some cs ∧ DataW.trod (fun _ => ()) P w 0 (fun _ => true) false fuel t cs.toList = some (d, p)
theorem laid_holds {P : Program} {w : World} : ∀ {l : List (String × DataW Unit)} {ps : List MemPlace}, DataW.LaidVars P w l ps → ∀ n d, (n, d) ∈ l → VarHolds P w n d
  | [], _, _, _, _, hm => by cases hm
  | (n', d') :: r, ps, h, n, d, hm => by
    obtain ⟨g, t, cs, fuel, p, q, h1, h2, h3, h4, h5, _⟩ := h
    rcases List.mem_cons.1 hm with e | e
    · cases e
      exact ⟨g, t, cs, fuel, p, h1, h2, h3, h4⟩
    · exact laid_holds h5 n d e
theorem laidH_holds {P : Program} {w : World} {l : List (String × DataW Unit)} (h : laidMetH P l w) (hl : (l.all fun x => x.2.handleName?.isNone) = true) {n : String} {d : DataW Unit} (hm : (n, d) ∈ l) : VarHolds P w n d := by
  rw [MakeChecks.laidMetH_plain _ _ _ hl] at h
  obtain ⟨ps, hv, _⟩ := h
  exact laid_holds hv n d hm
def poolData : DataW Unit := .agg (poolL.map fun x => .agg [.lit (.int .i64 x.1), .lit (.string x.2)])
theorem pool_of {w : World} (h : VarHolds Tryz.prog w "handbill/handmake.idPool" poolData) : PoolIn (memH w) := by
  obtain ⟨g, t, cs, fuel, p, hg, hty, hvar, hd⟩ := h
  obtain rfl := Option.some.inj ((show Tryz.prog.globalNamed "handbill/handmake.idPool" = some 0 by kernel_rfl).symm.trans hg)
  obtain rfl := Option.some.inj ((show (Tryz.prog.globals[0]?).map (·.type) = some 104 by kernel_rfl).symm.trans hty)
  obtain ⟨xs, m, -, hx, hl, hxl, hf⟩ := DataW.trod_array Tryz.underlying104 hd
  have hce : Tryz.prog.cellsOf 32 = 2 := by kernel_rfl
  have hci : Tryz.prog.cellsOf 3 = 1 := by kernel_rfl
  have hcs : Tryz.prog.cellsOf 9 = 1 := by kernel_rfl
  have hdx : xs.map (·.1) = poolL.map fun x => (DataW.agg [.lit (.int .i64 x.1), .lit (.string x.2)] : DataW Unit) := by
    have := congrArg Prod.fst hx
    simpa [poolData] using this.symm
  intro i hi
  have hi10 : i < 10 := hi
  have h1 := hf i hi10
  rw [hce] at h1
  have hix : i < xs.length := by omega
  rw [List.getElem?_eq_getElem hix] at h1
  have hpx : poolL[i]? = some poolL[i] := List.getElem?_eq_getElem hi
  generalize poolL[i] = x at hpx ⊢
  have hd1 : xs[i].1 = DataW.agg [.lit (.int .i64 x.1), .lit (.string x.2)] := by
    have := congrArg (fun l => l[i]?) hdx
    simp only [List.getElem?_map] at this
    rw [List.getElem?_eq_getElem hix, hpx] at this
    exact Option.some.inj this
  obtain ⟨y0, y1, n, hy, hl2, a0, a1⟩ := Go.ChangeShapes.trod_struct2 Tryz.underlying32 h1
  have hy' := (congrArg Prod.fst hy).symm.trans hd1
  simp only [DataW.agg.injEq, List.cons.injEq, and_true] at hy'
  obtain ⟨e0, e1⟩ := hy'
  obtain ⟨z, c0, v0, -⟩ := DataW.trod_int Tryz.underlying3 a0
  obtain ⟨s, c1, v1, -⟩ := DataW.trod_string Tryz.underlying9 a1
  have ez := (congrArg Prod.fst v0).symm.trans e0
  have es := (congrArg Prod.fst v1).symm.trans e1
  simp only [DataW.lit.injEq, Lit.int.injEq, true_and, Lit.string.injEq] at ez es
  subst ez
  simp only [hci, hcs] at c0 c1
  have k0 := congrArg (fun l => l[0]?) c0
  have k1 := congrArg (fun l => l[0]?) c1
  simp [List.getElem?_drop] at k0 k1
  refine ⟨memH_cell ?_, memH_cell ?_⟩
  · rw [World.var?_cell hg hvar (i * 2), ← Array.getElem?_toList]
    simpa using k0
  · rw [World.var?_cell hg hvar (i * 2 + 1), ← Array.getElem?_toList]
    rw [← es]
    simpa using k1
theorem mlen_of {w : World} (h : w.ShapedOpen Tryz.prog) : MLen (memH w) := by
  obtain ⟨m, hm⟩ := Go.Proofs.cell_of_shapedOpen_int (P := Tryz.prog) (g := 2) (t := 3) (zero := #[.int .i64 0]) h (of_decide_eq_true (by kernel_rfl)) (by kernel_rfl) rfl (by kernel_rfl) (by kernel_rfl) Tryz.underlying3
  exact ⟨m, memH_cell hm⟩
/-- What a law over the pool is told of its world. -/
structure GlobOk (w : World) : Prop where
  pool : PoolIn (memH w)
  mlen : MLen (memH w)
theorem globOk_of {w : World} {l : List (String × DataW Unit)} (h : laidMetH Tryz.prog l w) (hl : (l.all fun x => x.2.handleName?.isNone) = true) (hm : ("handbill/handmake.idPool", poolData) ∈ l) (hs : w.ShapedOpen Tryz.prog) : GlobOk w :=
  ⟨pool_of (laidH_holds h hl hm), mlen_of hs⟩
/-- The state of a law whose memory stays whole. -/
theorem Lw.whole {w : World} {a : Option Addr} {len cap : Nat} {zs : List Int} (h : IsRow .i64 w a len cap zs) :
    Lw w w.heap.size 0 (memH w) (w.alloc (.cells #[.slice a len cap, .int .i64 0] 25)) :=
  ⟨St.of_row h, (Below.refl _ _).alloc (Nat.le_refl _) _, Nat.le_refl _, (memH_in w).alloc _, Array.getElem?_eq_none (Nat.le_refl _)⟩
theorem handed_and {H : Type} {enc : TypeId × Value → H} {a : Assume} {C : Checked} {os : Os} {f : FuncId} {fn : Func} {s : ChangeSpec} {conds : List PathCond} {apart fresh handsOn again : Bool} {X : World → Array Value → Prop}
    (hX : ∀ (w w' : World) (args : Array Value), w.heap = w'.heap → X w args → X w' args)
    (own : ownKnob C.prog.godebug = none) (started : os.Started) (noInit : C.prog.inits.idxOf? f = none) (hfn : C.prog.funcs[f]? = some fn)
    (witness : ∃ (w : World) (tape : Tape) (i : Input), w.os = os ∧ (w.forCall tape i).Shaped C.prog ∧ i.vars = [] ∧ Input.okWide C.prog (w.forCall tape i) .any w.heap.size f i ∧
      ((s.pre enc C.prog fn conds apart (w.forCall tape i).memory i.args ∧ X (w.forCall tape i).memory i.args) ∧ sizedMet enc C.prog fn (OpenSpec.ofChange s) apart (w.forCall tape i).memory i.args) ∧ a.holds C.prog (lone (Frame.enter C.prog f i.args .normal) [] (w.forCall tape i)))
    (contract : ∀ (W : World) (base : Nat) (args : Array Value) (ds gs : List (DataW H)) (before : List MemPlace),
      (∀ (j : Nat) t v, fn.params[j]? = some t → args[j]? = some v → Value.okWide C.prog W .any base t v) →
      DataW.Whole enc C.prog fn.params.toList s.vars apart W args.toList ds gs before →
      X W args → W.ShapedOpen C.prog →
      Calls C.prog f args W fun e W' => ∃ v, e = .returned v ∧ s.post enc C.prog fn apart fresh handsOn again W args v W') :
    ReturnsInHanded a C os f .any (fun w args => (s.pre enc C.prog fn conds apart w args ∧ X w args) ∧ sizedMet enc C.prog fn (OpenSpec.ofChange s) apart w args) (s.post enc C.prog fn apart fresh handsOn again) := by
  refine returnsInHanded_of_calls own started noInit witness ?_
  intro w tape i _ hsh _ hok hpre hholds
  obtain ⟨_, _, _, fn', hfn', _, _, _, _, hval⟩ := hok
  have e : fn' = fn := Option.some.inj (hfn'.symm.trans hfn)
  subst e
  obtain ⟨⟨⟨ds, gs, before, hw, hc⟩, hx⟩, hz⟩ := hpre
  have hw' := DataW.Whole.of_heap (w' := w.forCall tape i) (by rfl) hw
  refine (contract (w.forCall tape i) w.heap.size i.args ds gs before hval hw' (hX _ _ _ (by rfl) hx) hsh).mono fun e W' ⟨v, he, hp⟩ => ?_
  subst he
  exact ChangeSpec.post_blind hp
end Go.Proofs.YtmlpfbffecdepaaGreatDoor

/- handkeep2.consents returns true. -/
namespace Go.Proofs.YtmlpfbffecdepaaGreatDoor
set_option linter.unusedVariables false
open Go.RowKit
def mailB : ByteArray := ⟨#[97, 64, 98, 46, 100, 101]⟩
def newsB : ByteArray := ⟨#[110, 101, 119, 115]⟩
def euB : ByteArray := ⟨#[101, 117]⟩
def consPs (A : Option Addr) : List PurD := [⟨newsB, A, 1, [⟨euB, 1, true, 0, 0⟩]⟩]
theorem pu0 (A : Option Addr) : puErr (consPs A) 0 = 0 := by
  have h1 : isKey newsB = true := by decide +kernel
  have h2 : tesErr [⟨euB, 1, true, 0, 0⟩] = 0 := by decide +kernel
  rw [puErr_at (show 0 < (consPs A).length by simp [consPs]), if_neg (by show ¬ isKey newsB = false; rw [h1]; simp), if_neg (by omega)]
  exact h2
theorem cons_pol (A : Option Addr) : polErr (consPs A) = 0 := by
  have hl : (consPs A).length = 1 := rfl
  unfold polErr
  rw [hl, if_neg (by omega), if_neg (by omega), fstErr_zero]
  intro i hi
  obtain rfl : i = 0 := by omega
  exact pu0 A
theorem cons_pur (A : Option Addr) : purF (consPs A) newsB = some ⟨newsB, A, 1, [⟨euB, 1, true, 0, 0⟩]⟩ := by
  unfold purF consPs
  rw [List.find?_cons, eqS_self]
theorem cons_term (A : Option Addr) : termF (consPs A) newsB euB 1 = some ⟨euB, 1, true, 0, 0⟩ := by
  unfold termF
  rw [cons_pur]
  have : teF [⟨euB, 1, true, 0, 0⟩] euB 1 = some ⟨euB, 1, true, 0, 0⟩ := by
    unfold teF
    rw [List.find?_cons, eqS_self]
    rfl
  exact this
theorem cons_err (A : Option Addr) : allErr (consPs A) [] [⟨1, mailB⟩] 1 newsB euB 1 0 = 0 := by
  have h1 : sayErr idErr (consPs A) [] = 0 := by
    unfold sayErr
    rw [if_neg (by rw [cons_pol]; simp), if_neg (by simp)]
    rfl
  have h2 : idsErr [⟨1, mailB⟩] 1 = 0 := by rw [idsErr_one]; decide +kernel
  have h3 : queErr (consPs A) newsB euB 1 0 = 0 := by
    unfold queErr
    rw [cons_pur]
    have : isKey euB = true := by decide +kernel
    rw [this]
    rfl
  unfold allErr
  rw [h1, h2, h3]
  rfl
theorem cons_may (A : Option Addr) : mayA (consPs A) [] 1 mailB newsB euB 1 0 = ⟨true, 1, 0⟩ := by
  unfold mayA
  rw [if_neg (by rw [cons_err]; simp)]
  unfold askF answerF
  rw [cons_term]
  rfl
set_option maxHeartbeats 2000000 in
set_option maxRecDepth 100000 in
theorem consents_any (H : Frz) (hM : MLen H) (w : World) (hH : H.In w) :
    Calls Tryz.prog 16 #[] w fun e w' => e = .returned (.bool true) ∧ Below w.heap.size w w' := by
  obtain ⟨H1, le1, hb1, hin1⟩ := (hH.alloc (.cells #[.int .i64 1, .string mailB] 32)).put (.cells #[.string euB, .int .i64 1, .bool true, .int .i64 0, .int .i64 0] 60)
  obtain ⟨H2, le2, hb2, hin2⟩ := hin1.put (.cells #[.string newsB, .slice (some ⟨w.heap.size + 1, 0, none⟩) 1 1] 58)
  have s1 : (w.alloc (.cells #[.int .i64 1, .string mailB] 32)).heap.size = w.heap.size + 1 := by simp
  have s2 : ((w.alloc (.cells #[.int .i64 1, .string mailB] 32)).alloc (.cells #[.string euB, .int .i64 1, .bool true, .int .i64 0, .int .i64 0] 60)).heap.size = w.heap.size + 2 := by simp
  rw [s1] at hb1
  rw [s2] at hb2
  have hP : PolIn H2 (some ⟨w.heap.size + 2, 0, none⟩) (consPs (some ⟨w.heap.size + 1, 0, none⟩)) := by
    refine ⟨Rw_blk hb2, fun p hp => ?_, fun p hp => ?_⟩
    · simp [consPs] at hp
      subst hp
      exact Rw_blk (le2 _ _ hb1)
    · simp [consPs] at hp
      subst hp
      refine ⟨show newsB.size ≤ 1000000 by decide, by simp, by simp, fun t ht => ?_⟩
      simp at ht
      subst ht
      decide
  have HC := Lib.hid (may_any H2 ((hM.le le1).le le2) (some ⟨w.heap.size + 2, 0, none⟩) 1 (consPs (some ⟨w.heap.size + 1, 0, none⟩)) none 0 [] 1 mailB newsB euB 1 0 _ hin2 hP (by simp [consPs]) Rw.nil (by simp) (fun s hs => by simp at hs) (by decide) (by decide))
  have HB : Hid (Below w.heap.size w _) := (new2 (w := w) (.cells #[.int .i64 1, .string mailB] 32) (.cells #[.string euB, .int .i64 1, .bool true, .int .i64 0, .int .i64 0] 60)).alloc (by simp; omega) (.cells #[.string newsB, .slice (some ⟨w.heap.size + 1, 0, none⟩) 1 1] 58)
  clear hM hH le1 hb1 hin1 le2 hb2 hin2 hP s1 s2
  rw [cons_err, cons_may] at HC
  go_enter Tryz.func16, Tryz.ntmps16
  go_wp2_with fail
  refine HC.out.mono ?_
  rintro e w1 ⟨rfl, hb⟩
  have HB1 := Lib.hid (HB.out.trans (hb.mono HB.out.size))
  clear hb HC HB
  rw [show ansV ⟨true, 1, 0⟩ = .agg #[.bool true, .int .i64 1, .int .i64 0] from rfl]
  have HB2 := Lib.hid (HB1.out.alloc HB1.out.size (.cells #[.bool true, .int .i64 1, .int .i64 0] 92))
  clear HB1
  go_wp2_with fail
  go_ret
  exact ⟨rfl, HB2.out⟩
end Go.Proofs.YtmlpfbffecdepaaGreatDoor
