/- Codes of package offer: ReadCode, offers. -/
import Derived.Test.YtadfoaopamlnpaaOffText
import Derived.Laws.IdiomStrings
namespace Go.Proofs.Ytadfoaopamlnpaa
set_option linter.unusedVariables false
open Go.RowKit

theorem sign_facts (c : UInt8) (h : 0 ≤ Hb.val c) : c.toNat < 97 ∧ c.toNat ≠ 79 ∧ c.toNat ≠ 73 ∧ c.toNat ≠ 76 ∧ c.toNat ≠ 83 ∧ c.toNat ≠ 90 ∧ c.toNat ≠ 32 ∧ c.toNat ≠ 45 ∧ c.toNat ≠ 46 := by
  have key : ∀ n : Fin 256, 0 ≤ Hb.val (UInt8.ofNat n.val) → n.val < 97 ∧ n.val ≠ 79 ∧ n.val ≠ 73 ∧ n.val ≠ 76 ∧ n.val ≠ 83 ∧ n.val ≠ 90 ∧ n.val ≠ 32 ∧ n.val ≠ 45 ∧ n.val ≠ 46 := by decide +kernel
  have := key ⟨c.toNat, c.toNat_lt⟩
  simp only [UInt8.ofNat_toNat] at this
  exact this h

set_option maxHeartbeats 400000 in
theorem typed_sign (c : UInt8) (w : World) (h : 0 ≤ Hb.val c) : Calls Try.prog 49 #[.int .u8 (c.toNat : Int)] w fun e w' => e = .returned (.int .u8 (c.toNat : Int)) ∧ w = w' := by
  obtain ⟨h1, h2, h3, h4, h5, h6, h7⟩ := sign_facts c h
  generalize c.toNat = n at *
  clear h h7
  have g2 : ((n : Int) == 79) = false := by simp; omega
  have g3 : ((n : Int) == 73) = false := by simp; omega
  have g4 : ((n : Int) == 76) = false := by simp; omega
  have g5 : ((n : Int) == 83) = false := by simp; omega
  have g6 : ((n : Int) == 90) = false := by simp; omega
  have g1 : decide ((97 : Int) ≤ n) = false := by simp; omega
  clear h2 h3 h4 h5 h6
  go_enter Try.func49, Try.ntmps49
  go_wp2
  go_ret
  exact ⟨rfl, rfl⟩

/-- No separator. -/
def nosep (c : UInt8) : Bool := !(c == 32 || c == 45 || c == 46)

theorem nosep_sign {c : UInt8} (h : 0 ≤ Hb.val c) : nosep c = true := by
  obtain ⟨_, _, _, _, _, _, h1, h2, h3⟩ := sign_facts c h
  have e1 : c ≠ 32 := fun e => h1 (by rw [e]; rfl)
  have e2 : c ≠ 45 := fun e => h2 (by rw [e]; rfl)
  have e3 : c ≠ 46 := fun e => h3 (by rw [e]; rfl)
  simp [nosep, e1, e2, e3]

theorem infoByte : (Try.prog.info? 5).map (fun i => (i.zero, i.size, i.bytes)) = some (some (.int .u8 0), 1, 1) := by kernel_rfl

def vb (c : UInt8) : Value := .int .u8 (c.toNat : Int)

theorem own_bytes {w : World} {B : Nat} {v : Value} {l : List UInt8} (h : w.ownsRow B 5 1 v l.length (l.map vb)) (h0 : 0 < l.length) :
    (convert 39 9 v).run Try.prog w = .ok (.string ⟨l.toArray⟩) w := by
  rcases h.2 with ⟨_, hn⟩ | ⟨g, cap, cur, rfl, _, hh, hle, _⟩
  · omega
  · refine run_convert_bytes_back w _ _ 5 ⟨g, 0, none⟩ cap l Try.underlying39 Try.underlying5 Try.underlying9 fun j hj => ?_
    exact h.cells (g := g) rfl j _ (by simp [hj, vb])

set_option maxHeartbeats 1000000 in
set_option maxRecDepth 100000 in
theorem readCode_any (s : ByteArray) (w : World) (h2 : s.size ≤ 100) (hs : ∀ c ∈ s.data.toList, nosep c = true → 0 ≤ Hb.val c) (hc : codeErr ⟨(s.data.toList.filter nosep).toArray⟩ = 0) :
    Calls Try.prog 18 #[.string s] w fun e w' =>
      e = .returned (.tuple #[.string ⟨(s.data.toList.filter nosep).toArray⟩, .int .i64 0]) ∧ Below w.heap.size w w' := by
  obtain ⟨i0, hi0, hz0, hz1, hz2⟩ := info_parts infoByte
  have HC := Lib.hid hc
  have HS := Lib.hid hs
  clear hc hs
  go_enter Try.func18, Try.ntmps18
  go_wp2_with fail
  go_loopw [4, 13] (fun v t wr => ∃ i : Nat, i ≤ s.size ∧ t = .int .i64 i ∧ wr.ownsRow w.heap.size 5 1 v ((s.data.toList.take i).filter nosep).length (((s.data.toList.take i).filter nosep).map vb) ∧ Below w.heap.size w wr)
    (fun _ t _ => s.size - (intOf t).toNat)
  case atStart => exact ⟨0, by omega, rfl, World.ownsRow_nil _ _ _ _, Below.refl _ _⟩
  case round =>
    obtain ⟨i, hi, rfl, hown, hb⟩ := hrel
    by_cases hlt : i < s.size
    · have ht := Lib.hid (take_snoc s i hlt)
      have hm := Lib.hid (show s[i] ∈ s.data.toList by show s.data[i] ∈ _; simp)
      have hll : ((s.data.toList.take i).filter nosep).length ≤ 100 := by
        refine Nat.le_trans (List.length_filter_le _ _) ?_
        simp; omega
      obtain ⟨c, hcc⟩ : ∃ c, c = s[i] := ⟨_, rfl⟩
      rw [← hcc] at ht hm
      have HCC := Lib.hid hcc
      clear hcc
      by_cases hns : nosep c = true
      · have hv := HS.out c hm.out hns
        obtain ⟨_, _, _, _, _, _, k1, k2, k3⟩ := sign_facts c hv
        have g1 : ((c.toNat : Int) != 32) = true := by simp; omega
        have g2 : ((c.toNat : Int) != 45) = true := by simp; omega
        have g3 : ((c.toNat : Int) != 46) = true := by simp; omega
        rw [HCC.out] at g1 g2 g3
        clear k1 k2 k3
        have hfl : Hid ((s.data.toList.take (i + 1)).filter nosep = (s.data.toList.take i).filter nosep ++ [c]) := by
          show _ = _
          rw [ht.out, List.filter_append]; simp [hns]
        clear hns
        go_wp2_with fail
        rw [← HCC.out] at g1 g2 g3 ⊢
        refine (typed_sign c _ hv).mono ?_
        rintro e w' ⟨rfl, rfl⟩
        generalize (s.data.toList.take i).filter nosep = fl at hown hll hfl
        go_wp2_with (first | (at_builtin; refine wpList_append1 rfl _ _ 39 rfl w.heap.size 5 i0 (.int .u8 0) 1 1 Try.underlying39 hi0 hz0 hz1 hz2 rfl (by decide) _ _ _ rfl hown #[vb c] 5 rfl rfl (by simp [Value.oneCell', vb]) (by omega) (by omega) hb.size ?_; intro v' w' hown' hg' hb'))
        go_roundw
        case rel => exact ⟨i + 1, by omega, by go_num, by rw [hfl.out]; simpa using hown', hb.trans hb'⟩
        case measure => simp [intOf]; omega
      · have hfl : Hid ((s.data.toList.take (i + 1)).filter nosep = (s.data.toList.take i).filter nosep) := by
          show _ = _
          rw [ht.out, List.filter_append]; simp [hns]
        have hor : c = 32 ∨ c = 45 ∨ c = 46 := by
          simp [nosep] at hns
          by_cases e1 : c = 32
          · exact .inl e1
          · by_cases e2 : c = 45
            · exact .inr (.inl e2)
            · exact .inr (.inr (hns e1 e2))
        generalize (s.data.toList.take i).filter nosep = fl at hown hll hfl
        clear hns
        rcases hor with e | e | e
        · have g1 : ((s[i].toNat : Int) != 32) = false := by rw [← HCC.out, e]; rfl
          clear e
          go_wp2_with fail
          go_roundw
          case rel => exact ⟨i + 1, by omega, by go_num, by rw [hfl.out]; exact hown, hb⟩
          case measure => simp [intOf]; omega
        · have g1 : ((s[i].toNat : Int) != 32) = true := by rw [← HCC.out, e]; rfl
          have g2 : ((s[i].toNat : Int) != 45) = false := by rw [← HCC.out, e]; rfl
          clear e
          go_wp2_with fail
          go_roundw
          case rel => exact ⟨i + 1, by omega, by go_num, by rw [hfl.out]; exact hown, hb⟩
          case measure => simp [intOf]; omega
        · have g1 : ((s[i].toNat : Int) != 32) = true := by rw [← HCC.out, e]; rfl
          have g2 : ((s[i].toNat : Int) != 45) = true := by rw [← HCC.out, e]; rfl
          have g3 : ((s[i].toNat : Int) != 46) = false := by rw [← HCC.out, e]; rfl
          clear e
          go_wp2_with fail
          go_roundw
          case rel => exact ⟨i + 1, by omega, by go_num, by rw [hfl.out]; exact hown, hb⟩
          case measure => simp [intOf]; omega
    · have he : s.data.toList.take i = s.data.toList := List.take_of_length_le (by simp; omega)
      rw [he] at hown
      clear he
      have hpos : 0 < (s.data.toList.filter nosep).length := by
        rcases Nat.eq_zero_or_pos (s.data.toList.filter nosep).length with h | h
        · have := HC.out
          rw [List.eq_nil_of_length_eq_zero h] at this
          exact absurd this (by decide)
        · exact h
      have hll : (s.data.toList.filter nosep).length ≤ 100 := Nat.le_trans (List.length_filter_le _ _) (by simpa using h2)
      generalize hfl : s.data.toList.filter nosep = fl at hown HC hpos hll
      have HFL := Lib.hid hfl
      clear hfl
      have hcv := own_bytes hown hpos
      clear hown
      go_wp2_with fail
      refine (checkCode_any ⟨fl.toArray⟩ _ (by show fl.toArray.size ≤ _; simp; omega)).mono ?_
      rintro e w' ⟨rfl, rfl⟩
      rw [HC.out]
      go_wp2_with fail
      go_ret2
      exact ⟨by rw [HFL.out]; rfl, hb⟩

theorem seal123 : ∀ k : Fin 31, Hb.csum ([49, 50, 51] ++ [Hb.sg k.val]) 0 % 31 = 0 → Hb.sg k.val = 67 := by decide +kernel

set_option maxHeartbeats 400000 in
theorem offers_any (w : World) : Calls Try.prog 15 #[] w fun e w' => e = .returned (.bool true) ∧ w = w' := by
  go_enter Try.func15, Try.ntmps15
  go_wp2_with fail
  refine (Seal_any ⟨#[49, 50, 51]⟩ _ (by decide)).mono ?_
  rintro e w' ⟨hp, rfl⟩
  have hx : e = .returned (.tuple #[.string ⟨#[49, 50, 51, 67]⟩, .int .i64 0]) := by
    rcases hp with ⟨hno, n, hn, he⟩ | ⟨_, _, _, k, hk, hk1, he⟩
    · exact absurd hno (by decide +kernel)
    · rw [he]
      have : snoc ⟨#[49, 50, 51]⟩ k = ⟨#[49, 50, 51, 67]⟩ := by
        apply bytes_ext
        rw [snoc_list, seal123 ⟨k, hk⟩ hk1]
        rfl
      rw [this]
  subst hx
  go_wp2_with fail
  go_ret
  exact ⟨rfl, rfl⟩
end Go.Proofs.Ytadfoaopamlnpaa
