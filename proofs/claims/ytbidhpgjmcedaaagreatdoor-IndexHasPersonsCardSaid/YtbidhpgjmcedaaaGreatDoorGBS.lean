/- Texts of this claim, put together: CopyK. -/
import Derived.Test.YtbidhpgjmcedaaaGreatDoorGAH
import Derived.Test.YtbidhpgjmcedaaaGreatDoorGAE
import Derived.Laws.CopyOwn
namespace Go.Proofs.YtbidhpgjmcedaaaGreatDoor
set_option linter.unusedVariables false
open Go.RowKit
theorem run_copy_rowK {P : Program} (w : World) (dT sT ty elem : TypeId) (k n : Nat) (g o dLen dCap : Nat) (a : Addr) (sLen sCap : Nat) (cur : Array Value) (t : TypeId) (cs : List Value)
  (hu : P.underlying dT = some (.slice elem)) (hs : (P.info? elem).map (·.size) = some k)
  (hg : w.heap[g]? = some (.cells cur t (0, 0))) (hn : n = Nat.min sLen dLen) (hl : cs.length = n * k)
  (hsrc : ∀ j v, cs[j]? = some v → w.cell? (a.add j) = some v) (hfit : o + cs.length ≤ cur.size) (h1 : ∀ v ∈ cs, v.oneCell' = true) :
  (Builtin.copy_ #[dT, sT] ty #[.slice (some ⟨g, o, none⟩) dLen dCap, .slice (some a) sLen sCap]).run P w =
   .ok (goInt n) (w.setRow g (cur.toList.take o ++ cs ++ cur.toList.drop (o + cs.length)).toArray) := by
 have hld := run_loadCells_list (P := P) w a cs hsrc
 have hst := run_storeCells_at P g o t cs 0 cur w hg (by simpa using hfit) h1
 rw [hl] at hld
 cases hq : P.info? elem with
 | none => simp [hq] at hs
 | some i =>
  have hi : i.size = k := by simpa [hq] using hs
  simp [Builtin.copy_, run_underlying hu, Builtin.lenOf, Builtin.firstCells, sizeOf, typeInfo, hq, hi, ← hn, hld, hst]
section
variable {D : Type} {w : World} {g T k : Nat} {f : D → Nat → Value} {ds es : List D} {rest : List Value}
theorem run_copy_blk {P : Program} (dT sT ty elem : TypeId) (o dLen dCap : Nat) (a : Addr) (sLen sCap : Nat)
  (hu : P.underlying dT = some (.slice elem)) (hs : (P.info? elem).map (·.size) = some k)
  (hg : KBlk w g T k f ds rest) (hn : es.length = Nat.min sLen dLen)
  (hsrc : ∀ j v, (cellsOf k f es)[j]? = some v → w.cell? (a.add j) = some v) (hfit : o + es.length ≤ ds.length) (h1 : ∀ v ∈ cellsOf k f es, v.oneCell' = true) :
  ∃ w', (Builtin.copy_ #[dT, sT] ty #[.slice (some ⟨g, o * k, none⟩) dLen dCap, .slice (some a) sLen sCap]).run P w = .ok (goInt es.length) w' ∧
   KBlk w' g T k f (ds.take o ++ es ++ ds.drop (o + es.length)) rest ∧ w.grownBy w' (some g) := by
 have hlen : (cellsOf k f es).length = es.length * k := cellsOf_len k f es
 have hfit2 : o * k + (cellsOf k f es).length ≤ (cellsOf k f ds ++ rest).toArray.size := by
  have := Nat.mul_le_mul_right k hfit
  rw [Nat.add_mul] at this
  simp [cellsOf_len]
  omega
 refine ⟨_, run_copy_rowK w dT sT ty elem k es.length g (o * k) dLen dCap a sLen sCap _ T (cellsOf k f es) hu hs hg hn hlen hsrc hfit2 h1, ?_, ?_⟩
 ·unfold KBlk
  have hh := setRow_heap w g _ (((cellsOf k f ds ++ rest).toArray.toList.take (o * k) ++ cellsOf k f es ++ (cellsOf k f ds ++ rest).toArray.toList.drop (o * k + (cellsOf k f es).length)).toArray) T _ hg
  rw [hh]
  congr 3
  have e1 : cellsOf k f ds = cellsOf k f (ds.take o) ++ (cellsOf k f ((ds.drop o).take es.length) ++ cellsOf k f (ds.drop (o + es.length))) := by
   rw [← cellsOf_split, ← cellsOf_split]
   congr 1
   rw [← List.drop_drop, List.take_append_drop, List.take_append_drop]
  have l1 : (cellsOf k f (ds.take o)).length = o * k := by rw [cellsOf_len, List.length_take]; congr 1; omega
  have l2 : (cellsOf k f ((ds.drop o).take es.length)).length = es.length * k := by rw [cellsOf_len]; congr 1; simp; omega
  rw [cellsOf_split, cellsOf_split]
  show List.take (o * k) (cellsOf k f ds ++ rest) ++ cellsOf k f es ++ List.drop (o * k + (cellsOf k f es).length) (cellsOf k f ds ++ rest) = _
  rw [e1, hlen]
  simp only [List.append_assoc]
  rw [List.take_left' l1, ← List.append_assoc (cellsOf k f (ds.take o)) (cellsOf k f ((ds.drop o).take es.length)), List.drop_left' (by rw [List.length_append, l1, l2])]
 ·exact ⟨rfl, rfl, rfl, by simp [World.setRow], fun i hi hne => setRow_other w g i _ (fun e => hne (by rw [e]))⟩
theorem wpList_copyK {P : Program} {ops : Array Oper} {r : List Oper} {o : Oper} {a : Act} {Q : Exit → Act → World → Prop} (hgd : o.guard = none) (d s : Operand) (dT sT : TypeId)
  (ho : o.op = .call { callee := .builtin .copy, args := #[d, s], argTypes := #[dT, sT] }) (elem : TypeId) (hu : P.underlying dT = some (.slice elem)) (hsz : (P.info? elem).map (·.size) = some k)
  (off dLen dCap : Nat) (ad : Addr) (sLen sCap : Nat) (hd : a.eval d = .slice (some ⟨g, off * k, none⟩) dLen dCap) (hs : a.eval s = .slice (some ad) sLen sCap)
  (hg : KBlk w g T k f ds rest) (hn : es.length = Nat.min sLen dLen)
  (hsrc : ∀ j v, (cellsOf k f es)[j]? = some v → w.cell? (ad.add j) = some v) (hfit : off + es.length ≤ ds.length) (h1 : ∀ v ∈ cellsOf k f es, v.oneCell' = true)
  (h : ∀ w', KBlk w' g T k f (ds.take off ++ es ++ ds.drop (off + es.length)) rest → w.grownBy w' (some g) → wpList P ops Q r (a.put o.dst (goInt es.length)) w') :
  wpList P ops Q (o :: r) a w := by
 refine wpList_plain hgd fun K hK => ?_
 obtain ⟨w', hrun, h2, h3⟩ := run_copy_blk (P := P) dT sT o.type elem off dLen dCap ad sLen sCap hu hsz hg hn hsrc hfit h1
 unfold Oper.wp
 simp [execOp, ho, resolve, invoke, builtin, hd, hs, hrun, Result.andThen]
 exact hK _ _ (h w' h2 h3)
theorem step_copyK {P : Program} {ops : Array Oper} {o : Oper} {a : Act} {K : Act → World → Prop} {Q : Exit → Act → World → Prop} {E : Prop} (hgd : o.guard = none) (d s : Operand) (dT sT : TypeId)
  (ho : o.op = .call { callee := .builtin .copy, args := #[d, s], argTypes := #[dT, sT] }) (elem : TypeId) (hu : P.underlying dT = some (.slice elem)) (hsz : (P.info? elem).map (·.size) = some k)
  (off dLen dCap : Nat) (ad : Addr) (sLen sCap : Nat) (hd : a.eval d = .slice (some ⟨g, off * k, none⟩) dLen dCap) (hs : a.eval s = .slice (some ad) sLen sCap)
  (hg : KBlk w g T k f ds rest) (hn : es.length = Nat.min sLen dLen)
  (hsrc : ∀ j v, (cellsOf k f es)[j]? = some v → w.cell? (ad.add j) = some v) (hfit : off + es.length ≤ ds.length) (h1 : ∀ v ∈ cellsOf k f es, v.oneCell' = true)
  (h : ∀ w', KBlk w' g T k f (ds.take off ++ es ++ ds.drop (off + es.length)) rest → w.grownBy w' (some g) → K (a.put o.dst (goInt es.length)) w') :
  if Region.wanted o (yielded ops a.tmps) = true then Oper.wp P o a w K Q else E := by
 have hw : Region.wanted o (yielded ops a.tmps) = true := by simp [Region.wanted, hgd]
 rw [if_pos hw]
 obtain ⟨w', hrun, h2, h3⟩ := run_copy_blk (P := P) dT sT o.type elem off dLen dCap ad sLen sCap hu hsz hg hn hsrc hfit h1
 unfold Oper.wp
 simp [execOp, ho, resolve, invoke, builtin, hd, hs, hrun, Result.andThen]
 exact h w' h2 h3
end
end Go.Proofs.YtbidhpgjmcedaaaGreatDoor
