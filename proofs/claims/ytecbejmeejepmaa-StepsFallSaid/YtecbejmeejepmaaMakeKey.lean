/- What a stream makes: keys. -/
import Derived.Test.YtecbejmeejepmaaMake
import Derived.Test.YtecbejmeejepmaaLwMore
namespace Go.Proofs.Ytecbejmeejepmaa
set_option linter.unusedVariables false
open Go.RowKit
theorem StrsW.grown {W W' : World} {A : Option Addr} {ss : List ByteArray} {bs : Nat} (h : StrsW W A ss) (g : W.grownBy W' (some bs)) (hne : ∀ b off, A = some ⟨b, off, none⟩ → b ≠ bs) : StrsW W' A ss := by
  intro i hi
  obtain ⟨b, off, hA, hc⟩ := h i hi
  exact ⟨b, off, hA, (World.cell?_of_block (a := ⟨b, off + i, none⟩) (g.block b (World.block_lt_of_cell? W _ hc) (fun e => hne b off hA (by injection e)))).trans hc⟩
theorem odd_key {s : ByteArray} (h : s ∈ [(⟨#[]⟩ : ByteArray), ⟨#[75, 101, 121]⟩, ⟨#[49, 97]⟩]) : s.size ≤ 1000 := by
  simp at h
  rcases h with rfl | rfl | rfl
  · show (0 : Nat) ≤ 1000; omega
  · show (3 : Nat) ≤ 1000; omega
  · show (2 : Nat) ≤ 1000; omega
theorem grown_trans' {W W' W'' : World} {r : Option Nat} (h : W.grownBy W' r) (k : W'.grownBy W'' r) : W.grownBy W'' r :=
  ⟨k.os.trans h.os, k.tape.trans h.tape, k.output.trans h.output, Nat.le_trans h.size k.size, fun i hi hne => (k.block i (Nat.lt_of_lt_of_le hi h.size) hne).trans (h.block i hi hne)⟩
theorem grown_alloc' {w : World} (o : Obj) (row : Option Nat) : w.grownBy (w.alloc o) row := ⟨rfl, rfl, rfl, by simp, fun k hk _ => heap_lt hk⟩
set_option maxHeartbeats 400000 in
theorem Lw.key {w W : World} {bs K : Nat} {H : Frz} (h : Lw w bs K H W) (A : Option Addr) (cap : Nat) (ss : List ByteArray) (hA : StrsW W A ss) (hne : ∀ b off, A = some ⟨b, off, none⟩ → b ≠ bs)
    (h0 : 0 < ss.length) (hl : ss.length ≤ 1000000) (hsz : ∀ s ∈ ss, s.size ≤ 1000) (hK : K ≤ 1000000000) :
    Calls Try.prog 10 #[.pointer (some ⟨bs, 0, none⟩), .slice A ss.length cap] W fun e W' =>
      ∃ s : ByteArray, e = .returned (.string s) ∧ s.size ≤ 1000 ∧ Lw w bs (K + 2) H W' ∧ W.grownBy W' (some bs) := by
  have HA := Lib.hid hA
  have HN := Lib.hid hne
  have HS := Lib.hid hsz
  have HL := Lib.hid h
  clear h hA hne hsz
  go_enter Try.func10, Try.ntmps10
  go_wp2_with fail
  refine (HL.out.flip 40 (by omega) (by omega)).mono ?_
  rintro e W1 ⟨t, rfl, L1, g1, -⟩
  have HL1 := Lib.hid L1
  have HG1 := Lib.hid g1
  have HA1 := Lib.hid (HA.out.grown g1 HN.out)
  clear L1 g1
  cases t with
  | true =>
    have hlt := HL1.out.lt
    have hSt : StrsW (W1.alloc (.cells #[.string ⟨#[]⟩, .string ⟨#[75, 101, 121]⟩, .string ⟨#[49, 97]⟩] 9)) (some ⟨W1.heap.size, 0, none⟩) [⟨#[]⟩, ⟨#[75, 101, 121]⟩, ⟨#[49, 97]⟩] := StrsW.of_row (heap_at rfl) rfl
    have HSt := Lib.hid hSt
    clear hSt
    go_wp2_with fail
    refine ((HL1.out.alloc _).one _ _ [⟨#[]⟩, ⟨#[75, 101, 121]⟩, ⟨#[49, 97]⟩] HSt.out (fun b off e => by injection e with e; injection e with e1 e2; omega) (by simp) (by simp) (by omega)).mono ?_
    rintro e W2 ⟨s, rfl, hs, L2, g2, -⟩
    have HF : Hid (s.size ≤ 1000 ∧ Lw w bs (K + 2) H W2 ∧ W.grownBy W2 (some bs)) := ⟨odd_key hs, L2.more (by omega), grown_trans' (grown_trans' HG1.out (grown_alloc' _ _)) g2⟩
    clear hs L2 g2 HSt
    go_wp2_with fail
    go_ret
    exact ⟨s, rfl, HF.out⟩
  | false =>
    go_wp2_with fail
    refine (HL1.out.one A cap ss HA1.out HN.out h0 hl (by omega)).mono ?_
    rintro e W2 ⟨s, rfl, hs, L2, g2, -⟩
    have HF : Hid (s.size ≤ 1000 ∧ Lw w bs (K + 2) H W2 ∧ W.grownBy W2 (some bs)) := ⟨HS.out s hs, L2.more (by omega), grown_trans' HG1.out g2⟩
    clear hs L2 g2
    go_wp2_with fail
    go_ret
    exact ⟨s, rfl, HF.out⟩
end Go.Proofs.Ytecbejmeejepmaa
