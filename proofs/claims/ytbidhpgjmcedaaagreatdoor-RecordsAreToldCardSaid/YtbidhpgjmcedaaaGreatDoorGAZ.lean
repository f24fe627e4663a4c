/- Texts of this claim, put together: Runes, Alike, Alike2. -/
import Derived.Test.YtbidhpgjmcedaaaGreatDoorGAY
import Derived.Test.YtbidhpgjmcedaaaGreatDoorGAI
import Derived.Test.YtbidhpgjmcedaaaGreatDoorGAF
import Derived.Test.YtbidhpgjmcedaaaGreatDoorGAE
namespace Go.Proofs.YtbidhpgjmcedaaaGreatDoor
set_option linter.unusedVariables false
open Go.RowKit
theorem empty_size {t : ByteArray} : t.toList.isEmpty = true ↔ t.size = 0:=by
 rw [size0V,List.isEmpty_iff]
theorem rune_head {c : ByteArray} (h : 0 < c.size) : c.data.toList.headD 0 = c[0]:=by
 cases c with
 | mk d =>
  cases d with
  | mk l =>
   cases l with
   | nil => exact absurd h (Nat.lt_irrefl 0)
   | cons x l => rfl
abbrev RuM:=IG (D:=Int) 21 1 fR
def strSize (v : Value) : Nat:=match v with | .string t => t.size | _ => 0
open Go.RowKit
open Go.RowKit
theorem slotA_of {a : Act} {s : Nat} {v : Value} (h : a.tmps.getD s undef = v) : a.tmps[s]?.getD undef = v:=by rw [← Array.getD_eq_getD_getElem?]; exact h
def RuF (v : Value) (ls : List Int) (W : World) : Prop:=∃ A cap H',v = .slice A ls.length cap ∧ ls.length ≤ cap ∧ H'.In W ∧ Rw H' A 1 fR ls
theorem RuF.below {v : Value} {ls : List Int} {W W' : World} (h : RuF v ls W) (hb : Below W.heap.size W W') : RuF v ls W':=by
 obtain ⟨A,cap,H',h1,h2,h3,h4⟩:=h
 exact ⟨A,cap,H',h1,h2,h3.below hb,h4⟩
theorem RuF.of {H : Frz} {B : Nat} {v : Value} {ls : List Int} {w W : World} (h : RuM H B v ls w W) : RuF v ls W:=by
 obtain ⟨A,cap,H',h1,h2,h3,-,h4,-⟩:=Orow.freezeN h.row Frz.empty
 exact ⟨A,cap,H',h1,h2,h3 (Frz.In.empty _),h4⟩
def Frz.both (H1 H2 : Frz) : Frz:=fun b => match H1 b with | some o => some o | none => H2 b
end Go.Proofs.YtbidhpgjmcedaaaGreatDoor
