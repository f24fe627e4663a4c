/- Texts of this claim, put together: CutP, Keyed. -/
import Derived.Test.YtbidhpgjmcedaaaGreatDoorGBE
import Derived.Test.YtbidhpgjmcedaaaGreatDoorGBH
import Derived.Laws.Rows
/- Without an id a person is whole just if its own touches hang together without it: plainly. -/
namespace Go.Proofs.YtbidhpgjmcedaaaGreatDoor
set_option linter.unusedVariables false
open Go.RowKit
theorem Share.mono {J J' : IdD → Bool} {ts : List TchD} (hJ : ∀ x, J x = true → J' x = true) {i j : Nat} (h : Share J ts i j) : Share J' ts i j := by
  obtain ⟨hi, hj, x, h1, h2, h3⟩ := h
  exact ⟨hi, hj, x, hJ x h1, h2, h3⟩
section
variable {J : IdD → Bool} {ts : List TchD} {rr : List Nat} {ρ : Nat}
end
end Go.Proofs.YtbidhpgjmcedaaaGreatDoor

/- keyed: the group of touches, and the first person with a key. -/
namespace Go.Proofs.YtbidhpgjmcedaaaGreatDoor
set_option linter.unusedVariables false
open Go.RowKit
theorem GrpIn.le {H H' : Frz} {gp bm n : Nat} {m : Lit → Option Value} {r : RulD} {A : Option Addr} {cap : Nat} {ts : List TchD} (h : GrpIn H gp bm n m r A cap ts) (hl : H.Le H') : GrpIn H' gp bm n m r A cap ts := by
  refine ⟨hl _ _ h.obj, fun W hW => h.map W (hW.le hl), ?_, fun x hx hp => ?_, h.none_, h.keys, h.rul.le hl, h.tch.le hl⟩
  · obtain ⟨o, ho⟩ := h.blk
    exact ⟨o, hl _ _ ho⟩
  · obtain ⟨B, c, e, hR, hc⟩ := h.some_ x hx hp
    exact ⟨B, c, e, hR.le hl, hc⟩
/-- The first person with a key. -/
structure KeyAt (J : IdD → Bool) (ts : List TchD) (rep : Nat → Nat) (key : IdD) (k : Nat) : Prop where
  lt : k < (rts rep ts.length).length
  eq : ∀ (h : k < (rts rep ts.length).length), keyF J (tAt ts (rts rep ts.length)[k]).ids = key
  ne : ∀ j (h : j < (rts rep ts.length).length), j < k → keyF J (tAt ts (rts rep ts.length)[j]).ids ≠ key
/-- Some person has a key. -/
def KeyIn (J : IdD → Bool) (ts : List TchD) (key : IdD) : Prop := ∃ (rr : List Nat) (k : Nat), Uf (Share J ts) rr ∧ KeyAt J ts (repN rr) key k
theorem KeyIn.at_ {J : IdD → Bool} {ts : List TchD} {key : IdD} (h : KeyIn J ts key) {rr : List Nat} (hu : Uf (Share J ts) rr) : ∃ k, KeyAt J ts (repN rr) key k := by
  obtain ⟨r2, k, h2, hk⟩ := h
  have e : repN r2 = repN rr := funext fun i => h2.rep_eq hu i
  rw [e] at hk
  exact ⟨k, hk⟩
end Go.Proofs.YtbidhpgjmcedaaaGreatDoor
