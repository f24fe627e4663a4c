/- What a stream makes: Pick, Flip, Range, Changed. -/
import Derived.Test.YtecbejmeejepmaaMem
import Derived.LoopTactic
namespace Go.Proofs.Ytecbejmeejepmaa
set_option linter.unusedVariables false
open Go.RowKit

/-- A slice of ints that reads as a list. -/
def Ints (w : World) (A : Option Addr) (zs : List Int) : Prop :=
  ∀ i (h : i < zs.length), ∃ b off, A = some ⟨b, off, none⟩ ∧ w.cell? ⟨b, off + i, none⟩ = some (.int .i64 zs[i])

theorem Ints.of_row {w : World} {n : Nat} {T : TypeId} {f : Nat × Nat} {zs : List Int} {cs : Array Value} (h : w.heap[n]? = some (.cells cs T f)) (hc : cs = (zs.map (Value.int .i64)).toArray) :
    Ints w (some ⟨n, 0, none⟩) zs := by
  intro i hi
  refine ⟨n, 0, rfl, ?_⟩
  simp only [World.cell?, h, hc]
  simp [hi]

/-- What a call that asks the stream leaves. -/
def Asked (w : World) (bs K : Nat) (H : Frz) (W W' : World) : Prop := Lw w bs K H W' ∧ W.grownBy W' (some bs)

section
variable {w W : World} {bs K : Nat} {H : Frz}

theorem Lw.next' (h : Lw w bs K H W) (n : Int) (hK : K ≤ 1099511627776) (hn : n ≤ 9223372036854775807) (h1 : 1 ≤ n) :
    Calls Try.prog 6 #[.pointer (some ⟨bs, 0, none⟩), .int .i64 n] W fun e W' =>
      ∃ r : Int, e = .returned (.int .i64 r) ∧ 0 ≤ r ∧ r < n ∧ Lw w bs (K + 1) H W' ∧ W.grownBy W' (some bs) ∧ W'.heap.size = W.heap.size :=
  (h.next n hK hn).mono fun e W' ⟨r, g1, g2, g3, g4, g5, g6, g7⟩ => ⟨r, g1, g2, g3 h1, g5, g6, g7⟩

set_option maxHeartbeats 400000 in
theorem Lw.pick (h : Lw w bs K H W) (A : Option Addr) (cap : Nat) (zs : List Int) (hA : Ints W A zs) (hne : ∀ b off, A = some ⟨b, off, none⟩ → b ≠ bs)
    (h0 : 0 < zs.length) (hl : zs.length ≤ 1000000) (hK : K ≤ 1099511627776) :
    Calls Try.prog 9 #[.pointer (some ⟨bs, 0, none⟩), .slice A zs.length cap] W fun e W' =>
      ∃ z : Int, e = .returned (.int .i64 z) ∧ z ∈ zs ∧ Lw w bs (K + 1) H W' ∧ W.grownBy W' (some bs) ∧ W'.heap.size = W.heap.size := by
  have HA := Lib.hid hA
  have HN := Lib.hid hne
  clear hA hne
  go_enter Try.func9, Try.ntmps9
  go_wp2_with fail
  refine (h.next' _ hK (by omega) (by omega)).mono ?_
  rintro e W' ⟨r, rfl, r0, r1, L, g, hz⟩
  obtain ⟨i, rfl⟩ := Int.eq_ofNat_of_zero_le r0
  have hi : i < zs.length := by omega
  obtain ⟨b, off, rfl, hc⟩ := HA.out i hi
  have hc' := (World.cell?_of_block (a := ⟨b, off + i, none⟩) (g.block b (World.block_lt_of_cell? W _ hc) (fun e => HN.out b off rfl (by injection e)))).trans hc
  have hm := Lib.hid (List.getElem_mem hi)
  have HG := Lib.hid g
  have HZ := Lib.hid hz
  generalize zs[i] = z at hc' hm
  clear hc g hz
  go_wp2_with fail
  go_ret
  exact ⟨z, rfl, hm.out, L, HG.out, HZ.out⟩

set_option maxHeartbeats 400000 in
theorem Lw.flip (h : Lw w bs K H W) (n : Int) (hn : n ≤ 9223372036854775807) (hK : K ≤ 1099511627776) :
    Calls Try.prog 11 #[.pointer (some ⟨bs, 0, none⟩), .int .i64 n] W fun e W' =>
      ∃ t : Bool, e = .returned (.bool t) ∧ Lw w bs (K + 1) H W' ∧ W.grownBy W' (some bs) ∧ W'.heap.size = W.heap.size := by
  go_enter Try.func11, Try.ntmps11
  go_wp2_with fail
  refine (h.next n hK hn).mono ?_
  rintro e W' ⟨r, rfl, r0, r1, r2, L, g, hz⟩
  have HG := Lib.hid g
  have HZ := Lib.hid hz
  clear g hz
  go_wp2_with fail
  go_ret
  exact ⟨_, rfl, L, HG.out, HZ.out⟩

set_option maxHeartbeats 400000 in
theorem Lw.range (h : Lw w bs K H W) (l u : Int) (hl : -1000000000000000 ≤ l) (hu : u ≤ 1000000000000000) (hlu : l ≤ u) (hK : K ≤ 1099511627776) :
    Calls Try.prog 13 #[.pointer (some ⟨bs, 0, none⟩), .int .i64 l, .int .i64 u] W fun e W' =>
      ∃ r : Int, e = .returned (.int .i64 r) ∧ l ≤ r ∧ r ≤ u ∧ Lw w bs (K + 1) H W' ∧ W.grownBy W' (some bs) ∧ W'.heap.size = W.heap.size := by
  go_enter Try.func13, Try.ntmps13
  go_wp2_with fail
  refine (h.next' _ hK (by omega) (by omega)).mono ?_
  rintro e W' ⟨r, rfl, r0, r1, L, g, hz⟩
  have HG := Lib.hid g
  have HZ := Lib.hid hz
  clear g hz
  go_wp2_with fail
  go_ret
  exact ⟨_, rfl, by omega, by omega, L, HG.out, HZ.out⟩
end
end Go.Proofs.Ytecbejmeejepmaa
