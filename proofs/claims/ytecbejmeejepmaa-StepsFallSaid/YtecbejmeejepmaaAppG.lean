/- append onto a full slice of one element, whatever the source. -/
import Derived.Test.YtecbejmeejepmaaConc
import Derived.Test.YtecbejmeejepmaaRow
import Derived.ArgAppend
namespace Go.Proofs.Ytecbejmeejepmaa
set_option linter.unusedVariables false
open Go.RowKit
theorem OpV.append {P : Program} {o : Oper} {a : Act} {w w' : World} {R : Value → World → Prop} (s x : Operand) (t : TypeId) (vs vx v' : Value) (hop : o.op = .call { callee := .builtin .append, args := #[s, x], argTypes := #[t, t] })
    (hs : a.eval s = vs) (hx : a.eval x = vx) (hrun : (Builtin.append_ #[t, t] o.type #[vs, vx]).run P w = .ok v' w') (h : R v' w') : OpV P o a.eval w R := by
  unfold OpV
  simp [execOp, hop, resolve, invoke, builtin, hs, hx, hrun, Result.andThen]
  exact h
theorem run_append_full {P : Program} (w : World) (t ty e : TypeId) (i : TypeInfo) (z : Value) (bytes : Nat) (ht : P.underlying t = some (.slice e)) (hi : P.info? e = some i) (hz : i.zero = some z) (hsize : i.size = 1) (hby : i.bytes = bytes) (hzs : z.cells.size = 1)
    (g : Nat) (s : Value) (hg : w.heap[g]? = some (.cells #[s] e (0, 0))) (Ap : Option Addr) (m capp : Nat) (news : List Value) (hl : news.length = m) (hn : ∀ j u, news[j]? = some u → ∃ ad, Ap = some ad ∧ w.cell? (ad.add j) = some u) (hm : m ≤ 1000000) (hb : bytes ≤ 4096) :
    ∃ v' w' g' cap', (Builtin.append_ #[t, t] ty #[.slice (some ⟨g, 0, none⟩) 1 1, .slice Ap m capp]).run P w = .ok v' w' ∧ v' = .slice (some ⟨g', 0, none⟩) (m + 1) cap' ∧ m + 1 ≤ cap' ∧ (g' = g ∨ w.heap.size ≤ g') ∧
      (∃ rest, w'.heap[g']? = some (.cells ((s :: news) ++ rest).toArray e (0, 0))) ∧ w.grownBy w' none := by
  rcases Nat.eq_zero_or_pos m with h0 | h0
  · subst h0
    obtain rfl := List.eq_nil_of_length_eq_zero hl
    refine ⟨_, w, g, 1, ?_, rfl, by omega, Or.inl rfl, ⟨[], by simpa using hg⟩, World.grownBy.refl _ _⟩
    cases Ap with
    | none => simp [Builtin.append_, run_underlying ht, sizeOf, typeInfo, hi, Builtin.lenOf, Builtin.firstCells, storeCells]
    | some ad => simp [Builtin.append_, run_underlying ht, sizeOf, typeInfo, hi, Builtin.lenOf, Builtin.firstCells, storeCells, loadCells, loadCellsFrom]
  · obtain ⟨ad, rfl, -⟩ := hn 0 (news[0]'(by omega)) (List.getElem?_eq_getElem (by omega))
    obtain ⟨v', w', hrun, r1, r2⟩ := run_append_arg_grows (P := P) w t ty e i z 1 bytes ht hi hz hsize hby hzs (by omega) ⟨g, 0, none⟩ 1 1 [s] (by simp) (fun j u hu => by
        cases j with
        | zero =>
          simp at hu
          subst hu
          rw [Addr.add_lit]
          simp [World.cell?, hg]
        | succ j => simp at hu) ad m capp news (by omega) (fun j u hu => by
        obtain ⟨ad', e', h'⟩ := hn j u hu
        injection e' with e'
        subst e'
        exact h') (by omega) (by simp only [maxLen]; omega) (by
        have : (1 + m) * bytes ≤ 1000001 * 4096 := Nat.mul_le_mul (by omega) hb
        omega)
    rcases r1.2 with ⟨_, hz⟩ | ⟨g', cap, cur, hv, hB, hh, hle, _, _, htk⟩
    · omega
    · refine ⟨v', w', g', cap, hrun, by rw [hv, Nat.add_comm 1 m], by omega, Or.inr hB, ⟨cur.toList.drop ((1 + m) * 1), ?_⟩, r2⟩
      rw [hh]
      have : s :: news = cur.toList.take ((1 + m) * 1) := htk.symm
      rw [this, List.take_append_drop]
end Go.Proofs.Ytecbejmeejepmaa
