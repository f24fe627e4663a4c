/- What a stream makes: strings. -/
import Derived.Test.YtecbejmeejepmaaStrP
import Derived.Test.YtecbejmeejepmaaConc
namespace Go.Proofs.Ytecbejmeejepmaa
set_option linter.unusedVariables false
open Go.RowKit
/-- A slice of strings in a world. -/
def StrsW (w : World) (A : Option Addr) (ss : List ByteArray) : Prop := ∀ i (h : i < ss.length), ∃ b off, A = some ⟨b, off, none⟩ ∧ w.cell? ⟨b, off + i, none⟩ = some (.string ss[i])
theorem StrsW.of_row {w : World} {n : Nat} {T : TypeId} {f : Nat × Nat} {ss : List ByteArray} {cs : Array Value} (h : w.heap[n]? = some (.cells cs T f)) (hc : cs = (ss.map Value.string).toArray) : StrsW w (some ⟨n, 0, none⟩) ss := by
  intro i hi
  refine ⟨n, 0, rfl, ?_⟩
  simp only [World.cell?, h, hc]
  simp [hi]
section
variable {w W : World} {bs K : Nat} {H : Frz}
set_option maxHeartbeats 400000 in
theorem Lw.one (h : Lw w bs K H W) (A : Option Addr) (cap : Nat) (ss : List ByteArray) (hA : StrsW W A ss) (hne : ∀ b off, A = some ⟨b, off, none⟩ → b ≠ bs)
    (h0 : 0 < ss.length) (hl : ss.length ≤ 1000000) (hK : K ≤ 1099511627776) :
    Calls Try.prog 12 #[.pointer (some ⟨bs, 0, none⟩), .slice A ss.length cap] W fun e W' =>
      ∃ s : ByteArray, e = .returned (.string s) ∧ s ∈ ss ∧ Lw w bs (K + 1) H W' ∧ W.grownBy W' (some bs) ∧ W'.heap.size = W.heap.size := by
  have HA := Lib.hid hA
  have HN := Lib.hid hne
  clear hA hne
  go_enter Try.func12, Try.ntmps12
  go_wp2_with fail
  refine (h.next' _ hK (by omega) (by omega)).mono ?_
  rintro e W' ⟨r, rfl, r0, r1, L, g, hz⟩
  obtain ⟨i, rfl⟩ := Int.eq_ofNat_of_zero_le r0
  have hi : i < ss.length := by omega
  obtain ⟨b, off, rfl, hc⟩ := HA.out i hi
  have hc' := (World.cell?_of_block (a := ⟨b, off + i, none⟩) (g.block b (World.block_lt_of_cell? W _ hc) (fun e => HN.out b off rfl (by injection e)))).trans hc
  have hm := Lib.hid (List.getElem_mem hi)
  have HG := Lib.hid g
  have HZ := Lib.hid hz
  generalize ss[i] = z at hc' hm
  clear hc g hz
  go_wp2_with fail
  go_ret
  exact ⟨z, rfl, hm.out, L, HG.out, HZ.out⟩
end
end Go.Proofs.Ytecbejmeejepmaa
