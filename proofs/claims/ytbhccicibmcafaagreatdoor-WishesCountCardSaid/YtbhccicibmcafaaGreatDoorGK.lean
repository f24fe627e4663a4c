/- Texts of this claim, put together: IdxInt, DelI, MomP, Mom, PerP, Next, Per, DetS, Conc0, PerLawP. -/
import Derived.Test.YtbhccicibmcafaaGreatDoorGA
import Derived.StillTailTactics
import Derived.Deep.Cut
import Derived.Test.YtbhccicibmcafaaGreatDoorGH
import Derived.Test.YtbhccicibmcafaaGreatDoorGJ
import Derived.Test.YtbhccicibmcafaaGreatDoorGE
/- IndexFunc and ContainsFunc at elements of 1 cells. -/
namespace Go.Proofs.YtbhccicibmcafaaGreatDoor
set_option linter.unusedVariables false
open Go.RowKit

section
variable {D : Type}
set_option maxHeartbeats 1000000 in
theorem indexFunc_Int (H : Frz) (f : D → Nat → Value) (kf : Nat) (caps : List Value) (p : D → Bool) (ds : List D) (hp : ∀ (W : World) (d : D), d ∈ ds → H.In W → Calls Tryz.prog kf ((f d 0) :: caps).toArray W fun e W' => e = .returned (.bool (p d)) ∧ Below W.heap.size W W')
    (hcall : ∀ (a : Value) (W : World), (callFunc kf (a :: caps).toArray).run Tryz.prog W = .ok (.enter kf (a :: caps).toArray) W)
    (A : Option Addr) (cap : Nat) (w : World) (hH : H.In w) (hR : Rw H A 1 f ds) (hl : ds.length ≤ 1000000) :
    Calls Tryz.prog 128 #[.slice A ds.length cap, .func (.func kf) #[] caps.toArray] w fun e w' => e = .returned (.int .i64 (idxF p ds)) ∧ Below w.heap.size w w' := by
  have HP := Lib.hid hp
  have HR := Lib.hid hR
  have HH := Lib.hid hH
  clear hp hR hH
  go_enter Tryz.func128, Tryz.ntmps128
  go_wp2_with fail
  go_loopw [5, 8] (fun _ t wr => ∃ i : Nat, i ≤ ds.length ∧ t = .int .i64 i ∧ Hid ((ds.take i).any p = false) ∧ Hid (Below w.heap.size w wr)) (fun _ t _ => ds.length - (intOf t).toNat)
  case atStart => exact ⟨0, by omega, rfl, rfl, Below.refl _ _⟩
  case round =>
    obtain ⟨i, hi, rfl, hall, hb⟩ := hrel
    by_cases hlt : i < ds.length
    · obtain ⟨b, off, rfl, hbl, hc⟩ := HR.out.at_ (HH.out.below hb.out) hlt (by omega)
      have c0 : wr.cell? ⟨b, off + i, none⟩ = some (f ds[i] 0) := by simpa using hc 0 (by omega)
      have HC := Lib.hid (fun W hW => HP.out W ds[i] (List.getElem_mem hlt) hW)
      have ht := Lib.hid (idxF_found (p := p) hlt hall.out)
      have ht2 := Lib.hid (any_take_succ (p := p) hlt hall.out)
      clear hc
      generalize hpd : p ds[i] = q at HC ht ht2
      generalize f ds[i] 0 = x0 at c0 HC
      clear hpd
      go_wp2_with fail
      refine (HC.out _ (HH.out.below hb.out)).mono ?_
      rintro e w1 ⟨rfl, hb1⟩
      have hb2 := Lib.hid (hb.out.trans (hb1.mono hb.out.size))
      clear hb1 hb
      cases q with
      | true =>
        go_wp2_with fail
        go_ret
        exact ⟨ret_int (ht.out (by simp)).symm, hb2.out⟩
      | false =>
        go_wp2_with fail
        go_roundw
        case rel => exact ⟨i + 1, by omega, by go_num, ht2.out (by simp), hb2⟩
        case measure => simp [intOf]; omega
    · have hf := Lib.hid (idxF_none (p := p) (show ds.any p = false by have := hall.out; rwa [List.take_of_length_le (by omega)] at this))
      go_wp2_with fail
      go_ret
      exact ⟨ret_int hf.out.symm, hb.out⟩
end
end Go.Proofs.YtbhccicibmcafaaGreatDoor

/- slices.DeleteFunc of integers. -/
namespace Go.Proofs.YtbhccicibmcafaaGreatDoor
set_option linter.unusedVariables false
open Go.RowKit
set_option maxHeartbeats 4000000 in
set_option maxRecDepth 100000 in
theorem deleteFunc_I (H : Frz) (kf : Nat) (caps : List Value) (p : Int → Bool) (ds : List Int)
    (hp : ∀ (W : World) (d : Int), d ∈ ds → H.In W → Calls Tryz.prog kf ((.int .i64 d : Value) :: caps).toArray W fun e W' => e = .returned (.bool (p d)) ∧ Below W.heap.size W W')
    (hcall : ∀ (a : Value) (W : World), (callFunc kf (a :: caps).toArray).run Tryz.prog W = .ok (.enter kf (a :: caps).toArray) W)
    (B : Nat) (v : Value) (w : World) (hH : H.In w) (hO : Orow w B 3 1 fI v ds) (hf : ∀ q, v.ownBlock = some q → H q = none) (hl : ds.length ≤ 100000) :
    Calls Tryz.prog 80 #[v, .func (.func kf) #[] caps.toArray] w fun e w' => (∃ v', e = .returned v' ∧ Orow w' B 3 1 fI v' (ds.filter fun d => !p d) ∧ (v'.ownBlock = v.ownBlock)) ∧ w.grownBy w' v.ownBlock := by
  obtain ⟨A, cap, H', hv, hle, p1, p2, hR, p3, p4⟩ := hO.freeze H
  subst hv
  have hin := p1 hH
  have hle2 := p2 hf
  have hp' : ∀ (W : World) (d : Int), d ∈ ds → H'.In W → Calls Tryz.prog kf ((fI d 0) :: caps).toArray W fun e W' => e = .returned (.bool (p d)) ∧ Below W.heap.size W W' := fun W d hd hW => hp W d hd (hle2.in_ hW)
  have HIX := Lib.hid (fun W (hW : H'.In W) => indexFunc_Int H' fI kf caps p ds hp' hcall A cap W hW hR (by omega))
  have HO := Lib.hid hO
  have HP := Lib.hid hp
  rcases idxF_cases p ds with ⟨e0, hno⟩ | ⟨i, hi, e0, hpi⟩
  · have HE := Lib.hid e0
    go_enter Tryz.func80, Tryz.ntmps80
    have HIN := Lib.hid hin
    clear hp hp' hO hf hR hH hin hle2 p1 p2 p3 p4 e0
    go_wp2_with fail
    refine (HIX.out w HIN.out).mono ?_
    rintro e w1 ⟨rfl, hb⟩
    rw [HE.out]
    have HF : Hid ((∃ v', Ending.returned (.slice A ds.length cap) = .returned v' ∧ Orow w1 B 3 1 fI v' (ds.filter fun d => !p d) ∧ (v'.ownBlock = (Value.slice A ds.length cap).ownBlock)) ∧ w.grownBy w1 (Value.slice A ds.length cap).ownBlock) := by
      refine ⟨⟨_, rfl, ?_, rfl⟩, ⟨hb.os, hb.tape, hb.output, hb.size, fun k hk _ => hb.block k hk⟩⟩
      rw [List.filter_eq_self.2 (fun d hd => by rw [hno d hd]; rfl)]
      exact HO.out.below hb
    clear hb
    go_wp2_with fail
    go_ret
    exact HF.out
  · have hbf : ∀ m (hm : m < i), p (ds[m]'(by omega)) = false := by
      intro m hm
      unfold idxF at e0
      cases e : ds.findIdx? p with
      | none =>
        rw [e] at e0
        have : (-1 : Int) = (i : Int) := e0
        omega
      | some k =>
        rw [e] at e0
        have e1 : k = i := by simp at e0; omega
        subst e1
        have := (List.findIdx?_eq_some_iff_getElem.1 e).2.2 m hm
        simpa using this
    have hD0 := Lib.hid (DelOk.start hi hbf hpi)
    have HE := Lib.hid e0
    have HIN := Lib.hid hin
    have HH := Lib.hid hH
    obtain ⟨g, cap2, rest, hv2, hlc, hBg, hg, hm, hk, hr⟩ := hO.form (fun c => by subst c; exact absurd hi (by simp))
    injection hv2 with e1 e2 e3
    subst e1 e3
    have hgn : H g = none := hf g rfl
    have HKB := Lib.hid hk
    have HRE := Lib.hid hr
    clear hp hp' hO hf hR hH hin hle2 p1 p2 p3 p4 e0 hbf hpi hk hr e2 HO
    have hm1 : ((i : Int) == -1) = false := by rw [beq_eq_false_iff_ne]; omega
    go_enter Tryz.func80, Tryz.ntmps80
    go_wp2_with fail
    refine (HIX.out w HIN.out).mono ?_
    rintro e w1 ⟨rfl, hb⟩
    rw [HE.out]
    have hK1 := Lib.hid (HKB.out.keep hb)
    have hG1 : Hid (w.grownBy w1 (some g)) := ⟨hb.os, hb.tape, hb.output, hb.size, fun k hk _ => hb.block k hk⟩
    clear hb HIX HIN HKB
    go_wp2_with fail
    clear HE
    go_loopw [5, 6, 7] (fun t5 t6 _ wr => ∃ (i j : Nat) (cur : List Int), t5 = .int .i64 i ∧ t6 = .int .i64 j ∧ Hid (DelOk p ds cur i j) ∧ Hid (KBlk wr g 3 1 fI cur rest) ∧ Hid (w.grownBy wr (some g))) (fun _ t _ _ => ds.length - (intOf t).toNat)
    case atStart => exact ⟨i, i + 1, ds, rfl, by go_num, hD0, hK1, hG1⟩
    case round =>
      obtain ⟨i, j, cur, rfl, rfl, hD, hk, hG⟩ := hrel
      clear hD0 hK1 hG1
      by_cases hj : j < ds.length
      · have hjc : j < cur.length := by rw [hD.out.len]; exact hj
        have hcell := hk.out.cell j
        have c0 : wr.cell? ⟨g, j, none⟩ = some (fI ds[j] 0) := by have := hk.out.cell j 0 hjc (by omega); rw [hD.out.at_ hj] at this; simpa using this
        clear hcell
        have hlen : cur.length = ds.length := hD.out.len
        have hij := hD.out.le
        have di : decide ((j : Int) < (ds.length : Int)) = true := by simp; exact hj
        have HK := Lib.hid (fun h => hD.out.keep hj h)
        have HDr := Lib.hid (fun h => hD.out.drop hj h)
        have HC := Lib.hid (fun W hW => HP.out W ds[j] (List.getElem_mem hj) hW)
        generalize hd : ds[j] = d at *
        generalize hpd : p d = q at *
        clear hd hpd
        simp only [fI] at c0
        have hcallj := hcall (.int .i64 d)
        have HIN9 := Lib.hid (HH.out.grown hG.out hgn)
        go_wp2_with fail
        refine (HC.out _ (HIN9.out)).mono ?_
        rintro e w2 ⟨rfl, hb⟩
        have hk2 := hk.out.keep hb
        have hG2 : Hid (w.grownBy w2 (some g)) := hG.out.trans ⟨hb.os, hb.tape, hb.output, hb.size, fun k hk _ => hb.block k hk⟩
        have hin2 := HIN9.out.below hb
        clear hb c0 hk hG HIN9
        cases q with
        | true =>
          have hD2 := Lib.hid (HDr.out rfl)
          have HK2 := Lib.hid hk2
          clear HDr HK hk2 hin2 hcallj
          go_wp2_with fail
          go_roundw
          case rel => exact ⟨i, j + 1, cur, rfl, by go_num, hD2, HK2, hG2⟩
          case measure => simp [intOf]; omega
        | false =>
          have hic : i < cur.length := by omega
          have hD2 := Lib.hid (HK.out rfl)
          have HKP := Lib.hid (hk2.put i hic d)
          have HGP := Lib.hid (setK_grown (i * 1) ((List.range 1).map (fI d)) hG2.out)
          have r0 : w2.cell? ⟨g, i, none⟩ = some (fI cur[i] 0) := by simpa using hk2.cell i 0 hic (by omega)
          have s0 := hk2.frozen i
          have e1 : (setK w2 g (i * 1) ((List.range 1).map (fI d))) = w2.setCell ⟨g, i, none⟩ (.int .i64 d) := by rw [Nat.mul_one]; rfl
          rw [e1] at HKP HGP
          clear e1
          clear HDr HK hk2 hin2 hcallj hG2
          go_wp2_with fail
          go_roundw
          case rel => exact ⟨i + 1, j + 1, cur.set i d, by go_num, by go_num, hD2, HKP, HGP⟩
          case measure => simp [intOf]; omega
      · have hje : j = ds.length := by have := hD.out.lt; omega
        subst hje
        have hlen : cur.length = ds.length := hD.out.len
        have hij := hD.out.le
        have hdone := Lib.hid hD.out.done
        obtain ⟨z0, hz0⟩ : ∃ z : Value, z = .int .i64 0 := ⟨_, rfl⟩
        have hzs : z0.cells.size = 1 := by rw [hz0]; rfl
        have hm8 : True := trivial
        have hcl : ∀ ty, (Builtin.clear_ #[22] ty #[.slice (some ⟨g, i, none⟩) (ds.length - i) (cap - i)]).run Tryz.prog wr = .ok (.tuple #[]) (setK wr g i (Builtin.zeroCells z0.cells (ds.length - i)).toList) :=
          fun ty => run_clear_rows wr _ _ ty z0 Tryz.underlying22 (fun w => by rw [hz0]; kernel_rfl) 1 hzs (by omega) (by rw [hz0]; simp [Value.cells, Value.oneCell']) g i _ _ (by omega) (fun q hq => by
            have h1 := hk.out.cell (i + q) 0 (by omega) (by omega)
            rw [show i + q = (i + q) * 1 + 0 from by omega, h1]; rfl) (fun q hq => hk.out.frozen _)
        have hKC : Hid (KBlk (setK wr g i (Builtin.zeroCells z0.cells (ds.length - i)).toList) g 3 1 fI (cur.take i) ((Builtin.zeroCells z0.cells (ds.length - i)).toList ++ rest)) := by
          have := hk.out.cut (i := i) (by omega) (Builtin.zeroCells z0.cells (ds.length - i)).toList (by rw [Array.length_toList, size_zeroCells, hzs]; omega)
          rw [Nat.mul_one] at this
          exact this
        have hGC := Lib.hid (setK_grown i (Builtin.zeroCells z0.cells (ds.length - i)).toList hG.out)
        have hLC : Hid ((Builtin.zeroCells z0.cells (ds.length - i)).toList.length = (ds.length - i) * 1) := by show _ = _; rw [Array.length_toList, size_zeroCells, hzs]
        generalize setK wr g i (Builtin.zeroCells z0.cells (ds.length - i)).toList = w9 at *
        have HF : Hid ((∃ v', Ending.returned (.slice (some ⟨g, 0, none⟩) i cap) = .returned v' ∧ Orow w9 B 3 1 fI v' (ds.filter fun d => !p d) ∧ (v'.ownBlock = (Value.slice (some ⟨g, 0, none⟩) ds.length cap).ownBlock)) ∧ w.grownBy w9 (Value.slice (some ⟨g, 0, none⟩) ds.length cap).ownBlock) := by
          refine ⟨⟨_, rfl, ?_, rfl⟩, hGC.out⟩
          have hli : (cur.take i).length = i := by rw [List.length_take]; omega
          have := Orow.of_blk (cap := cap) hKC.out hBg hm (by omega) (by rw [List.length_append, hLC.out, HRE.out, hli]; omega)
          rw [hli] at this
          rw [← hdone.out]
          exact this
        clear hD hk hG hKC hGC hLC hz0 hzs hm8 hdone
        go_wp2_with fail
        go_ret
        exact HF.out
end Go.Proofs.YtbhccicibmcafaaGreatDoor

/- Moments at which an answer can change, plain. -/
namespace Go.Proofs.YtbhccicibmcafaaGreatDoor
set_option linter.unusedVariables false
open Go.RowKit
def grantB (purp : ByteArray) (s : StD) : Bool := decide (s.what = 1) && eqS s.purp purp
def momOf (t : TermD) (purp : ByteArray) (s : StD) : List Int := if grantB purp s = true then [s.at_, s.at_ + t.wait + 1, s.at_ + t.days * 1440] else [s.at_]
def rawM (t : TermD) (purp : ByteArray) (l : List StD) : List Int := l.flatMap (momOf t purp)
def momF (t : TermD) (purp : ByteArray) (l : List StD) : List Int := (Lib.compact ((rawM t purp l).mergeSort fun x y => decide (x ≤ y))).filter fun m => !decide (4321440 ≤ m)
theorem rawM_snoc (t : TermD) (purp : ByteArray) {l : List StD} {i : Nat} (h : i < l.length) : rawM t purp (l.take (i + 1)) = rawM t purp (l.take i) ++ momOf t purp l[i] := by
  unfold rawM
  rw [List.take_succ_eq_append_getElem h, List.flatMap_append]
  simp
theorem momOf_len (t : TermD) (purp : ByteArray) (s : StD) : (momOf t purp s).length ≤ 3 := by unfold momOf; split <;> simp
theorem rawM_len (t : TermD) (purp : ByteArray) (l : List StD) : (rawM t purp l).length ≤ 3 * l.length := by
  induction l with
  | nil => simp [rawM]
  | cons s l ih =>
    unfold rawM at ih ⊢
    rw [List.flatMap_cons, List.length_append, List.length_cons]
    have := momOf_len t purp s
    omega
/-- Lib.compact keeps what is there. -/
theorem cut_mem (d : Array Int) (x : Int) : ∀ m, x ∈ Lib.compactUpTo d m ↔ ∃ j, j < m ∧ d[j]! = x
  | 0 => by simp [Lib.compactUpTo]
  | m + 1 => by
    rw [Lib.compactUpTo_succ, List.mem_append, cut_mem d x m]
    constructor
    · rintro (⟨j, hj, h⟩ | h)
      · exact ⟨j, by omega, h⟩
      · split at h
        · simp at h; exact ⟨m, by omega, h.symm⟩
        · cases h
    · rintro ⟨j, hj, h⟩
      by_cases c : j < m
      · exact Or.inl ⟨j, c, h⟩
      · have e : j = m := by omega
        subst e
        by_cases k : Lib.keeps d j = true
        · exact Or.inr (by rw [if_pos k]; simp [h])
        · by_cases h0 : 0 < j
          · by_cases h1 : d[j]! = d[j - 1]!
            · exact Or.inl ⟨j - 1, by omega, by rw [← h1]; exact h⟩
            · exact absurd (Lib.keeps_pos h1) k
          · have e0 : j = 0 := by omega
            subst e0
            exact absurd (Lib.keeps_lt_one d 0 (by omega)) k
theorem compact_mem (l : List Int) (m : Int) : m ∈ Lib.compact l ↔ m ∈ l := by
  unfold Lib.compact
  rw [cut_mem]
  constructor
  · rintro ⟨j, hj, h⟩
    rw [getElem!_pos l.toArray j (by simpa using hj)] at h
    rw [← h]; simp
  · intro h
    obtain ⟨j, hj, h⟩ := List.mem_iff_getElem.1 h
    exact ⟨j, hj, by rw [getElem!_pos l.toArray j (by simpa using hj)]; simpa using h⟩
theorem cut_asc (d : Array Int) (h : ∀ i j, i ≤ j → j < d.size → d[i]! ≤ d[j]!) : ∀ m, m ≤ d.size → (Lib.compactUpTo d m).Pairwise fun a b => a < b
  | 0, _ => by simp [Lib.compactUpTo]
  | m + 1, hm => by
    rw [Lib.compactUpTo_succ, List.pairwise_append]
    refine ⟨cut_asc d h m (by omega), ?_, ?_⟩
    · split
      · exact List.pairwise_singleton _ _
      · exact List.Pairwise.nil
    · intro a ha b hb
      split at hb
      · rename_i k
        simp at hb
        subst hb
        obtain ⟨j, hj, rfl⟩ := (cut_mem d a m).1 ha
        have h1 : d[m]! ≠ d[m - 1]! := by
          intro c
          rw [Lib.keeps_neg (by omega) c] at k
          cases k
        have h2 := h j (m - 1) (by omega) (by omega)
        have h3 := h (m - 1) m (by omega) (by omega)
        omega
      · cases hb
theorem compact_asc {l : List Int} (h : l.Pairwise fun a b => a ≤ b) : (Lib.compact l).Pairwise fun a b => a < b := by
  unfold Lib.compact
  refine cut_asc _ (fun i j hij hj => ?_) _ (by simp)
  have hj' : j < l.length := by simpa using hj
  rw [getElem!_pos l.toArray i (by simp; omega), getElem!_pos l.toArray j hj]
  by_cases c : i = j
  · subst c; exact Int.le_refl _
  · have := List.pairwise_iff_getElem.1 h i j (by omega) hj' (by omega)
    simpa using this
theorem momF_mem (t : TermD) (purp : ByteArray) (l : List StD) (m : Int) : m ∈ momF t purp l ↔ m ∈ rawM t purp l ∧ m < 4321440 := by
  unfold momF
  rw [List.mem_filter, compact_mem, List.mem_mergeSort]
  simp
theorem momF_asc (t : TermD) (purp : ByteArray) (l : List StD) : (momF t purp l).Pairwise fun a b => a < b := by
  unfold momF
  apply List.Pairwise.filter
  apply compact_asc
  have h := List.pairwise_mergeSort (le := fun (x y : Int) => decide (x ≤ y)) (by intro a b c; simp; omega) (by intro a b; simp; omega) (rawM t purp l)
  exact h.imp fun h => by simpa using h
/-- An answer changes at moments alone. -/
theorem answer_step (o : Option TermD) (purp : ByteArray) (sd : List StD) (hs : sd.Pairwise fun a b => a.at_ ≤ b.at_) (x : Int) (h : x + 1 ∉ rawM (o.getD zeroTe) purp sd) : answerF o purp sd (x + 1) = answerF o purp sd x := by
  have hm : ∀ s ∈ sd, s.at_ ≠ x + 1 ∧ (s.what = 1 ∧ eqS s.purp purp = true → s.at_ + (o.getD zeroTe).wait + 1 ≠ x + 1 ∧ s.at_ + (o.getD zeroTe).days * 1440 ≠ x + 1) := by
    intro s hs
    have h1 : ∀ m ∈ momOf (o.getD zeroTe) purp s, m ≠ x + 1 := fun m hm e => h (by rw [← e]; exact List.mem_flatMap.2 ⟨s, hs, hm⟩)
    refine ⟨h1 _ (by unfold momOf; split <;> simp), fun ⟨h2, h3⟩ => ?_⟩
    have h4 : grantB purp s = true := by unfold grantB; rw [h2, h3]; rfl
    exact ⟨h1 _ (by unfold momOf; rw [if_pos h4]; simp), h1 _ (by unfold momOf; rw [if_pos h4]; simp)⟩
  have hu : upTo sd (x + 1) = upTo sd x := by
    rw [upTo_filter hs, upTo_filter hs]
    apply List.filter_congr
    intro s hsm
    have := (hm s hsm).1
    by_cases c : s.at_ ≤ x
    · rw [decide_eq_true c, decide_eq_true (show s.at_ ≤ x + 1 by omega)]
    · rw [decide_eq_false c, decide_eq_false (by omega)]
  cases o with
  | none => rfl
  | some t =>
    unfold answerF
    rw [hu]
    dsimp only
    simp only [Option.getD_some] at hm
    by_cases ho : (objF (upTo sd x)).is = true
    · rw [if_pos ho, if_pos ho]
    · rw [if_neg ho, if_neg ho]
      have hsub : ∀ s ∈ upTo sd x, s ∈ sd := fun s hs => (List.takeWhile_sublist _).mem hs
      generalize upTo sd x = su at *
      have hst : ∀ g ∈ grF purp su, stateF su t g (x + 1) = stateF su t g x := by
        intro g hg
        have hgm := hsub g (List.mem_filter.1 hg).1
        have hgb := (List.mem_filter.1 hg).2
        have hgw : g.what = 1 ∧ eqS g.purp purp = true := by
          unfold grB at hgb
          simp only [Bool.and_eq_true, decide_eq_true_eq] at hgb
          exact hgb.1
        obtain ⟨m1, m2⟩ := (hm g hgm).2 hgw
        unfold stateF
        have e1 : (g.at_ + t.days * 1440 ≤ x + 1) ↔ (g.at_ + t.days * 1440 ≤ x) := by omega
        have e2 : (x + 1 ≤ g.at_ + t.wait) ↔ (x ≤ g.at_ + t.wait) := by omega
        simp only [e1, e2]
      have hbf : bestF su t (x + 1) (grF purp su) = bestF su t x (grF purp su) := by
        unfold bestF
        have : ∀ (gs : List StD) (b : BestD), (∀ g ∈ gs, stateF su t g (x + 1) = stateF su t g x) → gs.foldl (bestStep su t (x + 1)) b = gs.foldl (bestStep su t x) b := by
          intro gs
          induction gs with
          | nil => intro b _; rfl
          | cons g gs ih =>
            intro b hg
            rw [List.foldl_cons, List.foldl_cons, ih _ fun y hy => hg y (List.mem_cons_of_mem _ hy)]
            congr 1
            unfold bestStep
            rw [hg g List.mem_cons_self]
        exact this _ _ hst
      unfold allowF
      rw [hbf]
end Go.Proofs.YtbhccicibmcafaaGreatDoor

/- Consents: moments. -/
namespace Go.Proofs.YtbhccicibmcafaaGreatDoor
set_option linter.unusedVariables false
open Go.RowKit
theorem zeroI (w : World) : (zeroValue 3).run Tryz.prog w = .ok (.int .i64 0) w := by kernel_rfl
theorem compact_I (B : Nat) (v : Value) (zs : List Int) (w : World) (hO : Orow w B 3 1 fI v zs) (hl : zs.length ≤ 1000000) :
    Calls Tryz.prog 79 #[v] w fun e w' => (∃ v', e = .returned v' ∧ Orow w' B 3 1 fI v' (Lib.compact zs) ∧ v'.ownBlock = v.ownBlock) ∧ w.grownBy w' v.ownBlock := by
  rcases hO.2 with ⟨rfl, hn⟩ | ⟨g, cap, cur, rfl, hB, hh, hle, hm, hs, ht⟩
  · have : zs = [] := List.eq_nil_of_length_eq_zero hn
    subst this
    refine (Tryz.slices_Compact_int_empty none 0 w).mono ?_
    rintro e w' ⟨rfl, rfl⟩
    exact ⟨⟨_, rfl, Orow.nil _ _ _ _ _, rfl⟩, ⟨rfl, rfl, rfl, Nat.le_refl _, fun k hk _ => rfl⟩⟩
  · rw [cellsOf_fI, Nat.mul_one] at ht
    have hlt : g < w.heap.size := lt_of_heap hh
    refine (Tryz.slices_Compact_int g 0 cap zs w (holds_of_blockI hh ht) (by omega) hle).mono ?_
    rintro e w' ⟨rfl, q, rfl⟩
    have hcl : (Lib.compact zs).length ≤ zs.length := Lib.compact_length_le zs
    have hzl : (Lib.compact zs ++ List.replicate (zs.length - (Lib.compact zs).length) 0).length = zs.length := by simp; omega
    have hg := grownBy_sortedI (w := w) (g := g) (n := q) (os := #[]) (Lib.compact zs ++ List.replicate (zs.length - (Lib.compact zs).length) 0).toArray
    have ho := ownsRow_sortedI (n := q) (os := #[]) hzl hB hh hle hm hs
    rw [Sort.grow_empty] at hg ho
    refine ⟨⟨_, rfl, ?_, rfl⟩, hg⟩
    rcases ho.2 with ⟨c, _⟩ | ⟨g', cap', cur', hv', hB', hh', hle', hm', hs', ht'⟩
    · cases c
    · injection hv' with e1 e2 e3
      injection e1 with e1
      injection e1 with e1
      subst e1 e3
      refine ⟨by rw [cellsOf_fI]; simp, Or.inr ⟨g, cap, cur', rfl, hB, hh', by omega, hm, hs', ?_⟩⟩
      rw [cellsOf_fI, Nat.mul_one]
      rw [Nat.mul_one] at ht'
      have : cur'.toList.take (Lib.compact zs).length = (cur'.toList.take zs.length).take (Lib.compact zs).length := by rw [List.take_take]; congr 1; omega
      rw [this, ht', List.map_append, List.take_left' (by simp)]
set_option maxHeartbeats 1000000 in
set_option maxRecDepth 100000 in
theorem past_any (d : Int) (W : World) :
    Calls Tryz.prog 81 #[.int .i64 d] W fun e W' => e = .returned (.bool (decide (4321440 ≤ d))) ∧ Below W.heap.size W W' := by
  go_enter Tryz.func81, Tryz.ntmps81
  go_wp2_with fail
  go_ret
  exact ⟨rfl, Below.refl _ _⟩
theorem IR.put {H : Frz} {B : Nat} {v : Value} {zs : List Int} {w W : World} (h : IR H B v zs w W) (o : Obj) : ∃ H', H.Le H' ∧ H' W.heap.size = some o ∧ IR H' B v zs w (W.alloc o) := by
  have h2 := h.below (new1 o)
  refine ⟨H.add W.heap.size o, Frz.le_add (h.inn.none_ (Nat.le_refl _)), Frz.add_at _ _ _, h2.inn.add (heap_at rfl), h2.row, fun g hg => ?_, h2.bel, h2.hB, h2.le⟩
  rw [Frz.add_other (by have := (h.row.lt hg).2; omega)]
  exact h.own g hg
theorem IR.less {H H' : Frz} {B : Nat} {v : Value} {zs : List Int} {w W : World} (h : IR H' B v zs w W) (hl : H.Le H') : IR H B v zs w W :=
  ⟨h.inn.le hl, h.row, (fun g hg => by
    cases e : H g with
    | none => rfl
    | some o => (have := hl g o e; rw [h.own g hg] at this; cases this)), h.bel, h.hB, h.le⟩
/-- 'v = append(v, x1, x2, ..)', the elements laid in a block of their own just before. -/
theorem wpList_apps_at {D : Type} {P : Program} {wr : World} {ops : Array Oper} {rest : List Oper} {o : Oper} {a : Act} {Q : Exit → Act → World → Prop} (hgd : o.guard = none) (s x : Operand) (t : TypeId)
    (ho : o.op = .call { callee := .builtin .append, args := #[s, x], argTypes := #[t, t] })
    (B : Nat) (e : TypeId) (i : TypeInfo) (z : Value) (k bytes : Nat) (ht : P.underlying t = some (.slice e)) (hi : P.info? e = some i) (hz : i.zero = some z)
    (hsize : i.size = k) (hby : i.bytes = bytes) (hzs : z.cells.size = k) (hsz : 0 < k)
    (f : D → Nat → Value) (v : Value) (ds : List D) (hs : a.eval s = v) (hown : Orow wr B e k f v ds)
    (ds2 : List D) (cs : Array Value) (T : TypeId) (m : Nat) (hm : ds2.length = m) (hx : a.eval x = .slice (some ⟨wr.heap.size, 0, none⟩) m m) (hcs : cellsOf k f ds2 = cs.toList) (h1 : ∀ u ∈ cs.toList, u.oneCell' = true)
    (hn : ds.length + m ≤ 4294967296) (hbytes : bytes ≤ 4096) (hB : B ≤ wr.heap.size)
    (h : ∀ v' w', Orow w' B e k f v' (ds ++ ds2) → wr.grownBy w' v.ownBlock → (v'.ownBlock = v.ownBlock ∨ ∃ g, v'.ownBlock = some g ∧ wr.heap.size < g) → wpList P ops Q rest (a.put o.dst v') w') :
    wpList P ops Q (o :: rest) a (wr.alloc (.cells cs T)) := by
  have hck : cs.toList.length = m * k := by rw [← hcs, cellsOf_len, hm]
  refine wpList_append_own_at _ hgd s x t ho B e i z k bytes ht hi hz hsize hby hzs hsz v ds.length _ hs (hown.own.alloc _) ⟨wr.heap.size, 0, none⟩ m m cs.toList hx hck ?_ h1 (by simp only [maxLen]; omega) ?_ (by simp; omega) ?_
  · intro j u hu
    rw [Addr.add_lit, World.cell?_alloc_new]
    simp at hu ⊢
    exact hu
  · have : (ds.length + m) * bytes ≤ 4294967296 * 4096 := Nat.mul_le_mul (by omega) hbytes
    omega
  · intro v' w' ho' hg' _ hat
    have hg := grown_alloc_left hg'
    refine h v' w' ?_ hg ?_
    · show World.ownsRow _ _ _ _ _ _ _
      rw [cellsOf_split, hcs, List.length_append, hm]
      exact ho'
    · rcases hat with hat | hat
      · exact Or.inl hat
      · exact Or.inr ⟨_, hat, by simp⟩
def MomPost (w : World) (l : List Int) (e : Ending) (w' : World) : Prop := ∃ v, e = .returned v ∧ Orow w' w.heap.size 3 1 fI v l ∧ Below w.heap.size w w'
set_option maxHeartbeats 8000000 in
set_option maxRecDepth 100000 in
theorem moments_any (H : Frz) (A : Option Addr) (cap : Nat) (sd : List StD) (t : TermD) (has : Bool) (purp : ByteArray) (w : World) (hH : H.In w) (hR : Rw H A 8 fSt sd) (hl : sd.length < 20) (hbd : Bd sd) (htb : TB t) :
    Calls Tryz.prog 49 #[.agg #[.string t.region, .int .i64 t.ch, .bool t.free, .int .i64 t.days, .int .i64 t.wait, .bool has, .string purp, .slice A sd.length cap]] w (MomPost w (momF t purp sd)) := by
  obtain ⟨i0, hi0, hz0, hz1, hz2⟩ := info_parts infoI
  obtain ⟨H1, le1, hb1, hin1⟩ := hH.put (.cells #[.string t.region, .int .i64 t.ch, .bool t.free, .int .i64 t.days, .int .i64 t.wait, .bool has, .string purp, .slice A sd.length cap] 84)
  have HQB := Lib.hid hb1
  have HR := Lib.hid (hR.le le1)
  have HBD := Lib.hid hbd
  have HTB := Lib.hid htb
  have HI0 : Hid (IR H1 (w.heap.size + 1) (.slice none 0 0) (rawM t purp (sd.take 0)) w (w.alloc (.cells #[.string t.region, .int .i64 t.ch, .bool t.free, .int .i64 t.days, .int .i64 t.wait, .bool has, .string purp, .slice A sd.length cap] 84))) :=
    ⟨hin1, Orow.nil _ _ _ _ _, fun g hg => (by cases hg), new1 _, by omega, by simp⟩
  clear hH hR le1 hb1 hin1 hbd htb
  go_enter Tryz.func49, Tryz.ntmps49
  go_upto_region 2 with (fail)
  generalize w.alloc (.cells #[.string t.region, .int .i64 t.ch, .bool t.free, .int .i64 t.days, .int .i64 t.wait, .bool has, .string purp, .slice A sd.length cap] 84) = W0 at *
  have a7 : W0.cell? ⟨w.heap.size, 7, none⟩ = some (.slice A sd.length cap) := cell_h (HI0.out.inn _ _ HQB.out) 7 rfl
  go_wp2_with fail
  clear a7
  go_loopw [3, 5, 9] (fun v _ i wr => ∃ (k : Nat) (v' : Value), k ≤ sd.length ∧ i = .int .i64 k ∧ v = v' ∧ Hid (IR H1 (w.heap.size + 1) v' (rawM t purp (sd.take k)) w wr)) (fun _ _ i _ => sd.length - (intOf i).toNat)
  case atStart => exact ⟨0, _, by omega, rfl, rfl, HI0⟩
  case round =>
    obtain ⟨k, v', hk, rfl, rfl, hI⟩ := hrel
    clear HI0
    by_cases hlt : k < sd.length
    · obtain ⟨b, off, hA4, hbl, hc⟩ := HR.out.at_ hI.out.inn hlt (by omega)
      subst hA4
      have c0 : wr.cell? ⟨b, off + k * 8, none⟩ = some (.int .i64 sd[k].no) := hc 0 (by omega)
      have c1 : wr.cell? ⟨b, off + k * 8 + 1, none⟩ = some (.int .i64 sd[k].at_) := hc 1 (by omega)
      have c2 : wr.cell? ⟨b, off + k * 8 + 2, none⟩ = some (.int .i64 sd[k].kind) := hc 2 (by omega)
      have c3 : wr.cell? ⟨b, off + k * 8 + 3, none⟩ = some (.string sd[k].text) := hc 3 (by omega)
      have c4 : wr.cell? ⟨b, off + k * 8 + 4, none⟩ = some (.string sd[k].purp) := hc 4 (by omega)
      have c5 : wr.cell? ⟨b, off + k * 8 + 5, none⟩ = some (.string sd[k].region) := hc 5 (by omega)
      have c6 : wr.cell? ⟨b, off + k * 8 + 6, none⟩ = some (.int .i64 sd[k].ch) := hc 6 (by omega)
      have c7 : wr.cell? ⟨b, off + k * 8 + 7, none⟩ = some (.int .i64 sd[k].what) := hc 7 (by omega)
      have HFS := Lib.hid (rawM_snoc t purp hlt)
      have hbd := HBD.out _ (List.getElem_mem hlt)
      have hfl : (rawM t purp (sd.take k)).length ≤ 100 := by
        have h1 := rawM_len t purp (sd.take k)
        have h2 := List.length_take_le k sd
        omega
      have HMO : Hid (momOf t purp sd[k] = if grantB purp sd[k] = true then [sd[k].at_, sd[k].at_ + t.wait + 1, sd[k].at_ + t.days * 1440] else [sd[k].at_]) := rfl
      have HGB : Hid (grantB purp sd[k] = (decide (sd[k].what = 1) && eqS sd[k].purp purp)) := rfl
      clear hc
      obtain ⟨fs1, hfs1⟩ : ∃ l, l = rawM t purp (sd.take (k + 1)) := ⟨_, rfl⟩
      rw [← hfs1] at HFS
      have HF1 := Lib.hid hfs1
      clear hfs1
      generalize sd[k] = d at *
      generalize rawM t purp (sd.take k) = fs at *
      generalize momOf t purp d = md at *
      obtain ⟨H8, le8, hn8, hi8⟩ := hI.out.put (.cells #[.int .i64 d.no, .int .i64 d.at_, .int .i64 d.kind, .string d.text, .string d.purp, .string d.region, .int .i64 d.ch, .int .i64 d.what] 43)
      have HI8 := Lib.hid hi8
      have HLE := Lib.hid le8
      have HNB := Lib.hid hn8
      have HQ8 := Lib.hid (le8 _ _ HQB.out)
      clear le8 hn8 hi8
      go_upto_region 5 with (fail)
      clear c0 c1 c2 c3 c4 c5 c6 c7 hI
      generalize wr.alloc (.cells #[.int .i64 d.no, .int .i64 d.at_, .int .i64 d.kind, .string d.text, .string d.purp, .string d.region, .int .i64 d.ch, .int .i64 d.what] 43) = W8 at *
      generalize wr.heap.size = db at *
      have x1 : W8.cell? ⟨db, 1, none⟩ = some (.int .i64 d.at_) := cell_h (HI8.out.inn _ _ HNB.out) 1 rfl
      have HRow := Lib.hid HI8.out.row
      have HST := Lib.hid (fun v' W' o g1 at1 => HI8.out.app (v' := v') (W' := W') (zs' := fs ++ [d.at_]) o g1 at1)
      have hB9 := HI8.out.le
      have hpl : fs.length ≤ 4294967296 := by omega
      clear HI8
      go_upto_region 6 with (at_builtin; refine wpList_app_at rfl _ _ 22 rfl (w.heap.size + 1) 3 i0 (.int .i64 0) 1 8 Tryz.underlying22 hi0 hz0 hz1 hz2 rfl (by decide) fI _ fs rfl HRow.out d.at_ #[.int .i64 d.at_] 3 rfl rfl (by simp [Value.oneCell']) hpl (by omega) hB9 ?_; intro v1 W9 o1 g1 b1 at1; have HI9 := Lib.hid (HST.out _ _ o1 g1 at1); clear o1 g1 b1 at1 HST HRow)
      clear x1 hB9 hpl
      have x1 : W9.cell? ⟨db, 1, none⟩ = some (.int .i64 d.at_) := cell_h (HI9.out.inn _ _ HNB.out) 1 rfl
      have x4 : W9.cell? ⟨db, 4, none⟩ = some (.string d.purp) := cell_h (HI9.out.inn _ _ HNB.out) 4 rfl
      have x7 : W9.cell? ⟨db, 7, none⟩ = some (.int .i64 d.what) := cell_h (HI9.out.inn _ _ HNB.out) 7 rfl
      have a3 : W9.cell? ⟨w.heap.size, 3, none⟩ = some (.int .i64 t.days) := cell_h (HI9.out.inn _ _ HQ8.out) 3 rfl
      have a4 : W9.cell? ⟨w.heap.size, 4, none⟩ = some (.int .i64 t.wait) := cell_h (HI9.out.inn _ _ HQ8.out) 4 rfl
      have a6 : W9.cell? ⟨w.heap.size, 6, none⟩ = some (.string purp) := cell_h (HI9.out.inn _ _ HQ8.out) 6 rfl
      cases hgb : grantB purp d with
      | true =>
        rw [hgb] at HGB HMO
        have hg2 := HGB.out.symm
        simp only [Bool.and_eq_true] at hg2
        have k1 : (d.what == 1) = true := by simpa using hg2.1
        have k2 : (d.purp.toList == purp.toList) = true := hg2.2
        have HMD := Lib.hid (HMO.out.trans (if_pos rfl))
        have hw := HTB.out
        obtain ⟨⟨hd0, hd1⟩, hw0, hw1⟩ := hw
        have HRow := Lib.hid HI9.out.row
        have HST := Lib.hid (fun v' W' o g1 at1 => HI9.out.app (v' := v') (W' := W') (zs' := (fs ++ [d.at_]) ++ [d.at_ + t.wait + 1, d.at_ + t.days * 1440]) o g1 at1)
        have hB9 := HI9.out.le
        have hpl : (fs ++ [d.at_]).length + 2 ≤ 4294967296 := by simp; omega
        clear HI9 hgb hg2 HMO HGB
        generalize hfs : fs ++ [d.at_] = fs2 at *
        have HFS2 := Lib.hid hfs
        clear hfs
        go_wp2_with (at_builtin; refine wpList_apps_at rfl _ _ 22 rfl (w.heap.size + 1) 3 i0 (.int .i64 0) 1 8 Tryz.underlying22 hi0 hz0 hz1 hz2 rfl (by decide) fI _ fs2 rfl HRow.out [d.at_ + t.wait + 1, d.at_ + t.days * 1440] #[.int .i64 (d.at_ + t.wait + 1), .int .i64 (d.at_ + t.days * 1440)] 3 2 rfl rfl rfl (by simp [Value.oneCell']) hpl (by omega) hB9 ?_; intro v2 W10 o1 g1 at1; have HI10 := Lib.hid (HST.out _ _ o1 g1 at1); clear o1 g1 at1 HST HRow)
        have HI11 : Hid (IR H1 (w.heap.size + 1) v2 (rawM t purp (sd.take (k + 1))) w W10) := by
          have h := HI10.out.less HLE.out
          show IR _ _ _ _ _ _
          rw [← HF1.out, HFS.out, HMD.out]
          rw [← HFS2.out, List.append_assoc] at h
          exact h
        clear HI10
        go_roundw
        case rel => exact ⟨k + 1, _, by omega, by go_num, rfl, HI11⟩
        case measure => simp [intOf]; omega
      | false =>
        rw [hgb] at HGB HMO
        have HMD := Lib.hid (HMO.out.trans (if_neg (by simp)))
        have hg2 : ((d.what == 1) && (d.purp.toList == purp.toList)) = false := by
          have e2 : (d.what == 1) = decide (d.what = 1) := by
            by_cases c : d.what = 1 <;> simp [c]
          rw [e2]
          exact HGB.out.symm
        have HI11 : Hid (IR H1 (w.heap.size + 1) v1 (rawM t purp (sd.take (k + 1))) w W9) := by
          have h := HI9.out.less HLE.out
          show IR _ _ _ _ _ _
          rw [← HF1.out, HFS.out, HMD.out]
          exact h
        clear hgb HMO HGB HI9
        cases k1 : (d.what == 1) with
        | false =>
          clear hg2
          go_wp2_with fail
          go_roundw
          case rel => exact ⟨k + 1, _, by omega, by go_num, rfl, HI11⟩
          case measure => simp [intOf]; omega
        | true =>
          have k2 : (d.purp.toList == purp.toList) = false := by rw [k1] at hg2; exact hg2
          clear hg2
          go_wp2_with fail
          go_roundw
          case rel => exact ⟨k + 1, _, by omega, by go_num, rfl, HI11⟩
          case measure => simp [intOf]; omega
    · have hke : k = sd.length := by omega
      subst hke
      rw [List.take_length] at hI
      have hrl := rawM_len t purp sd
      obtain ⟨vg, rfl⟩ : ∃ vg : Value, vg = u3 := ⟨_, rfl⟩
      have HMF : Hid (momF t purp sd = (Lib.compact ((rawM t purp sd).mergeSort fun x y => decide (x ≤ y))).filter fun m => !decide (4321440 ≤ m)) := rfl
      have hml : ((rawM t purp sd).mergeSort fun x y => decide (x ≤ y)).length ≤ 60 := by rw [List.length_mergeSort]; omega
      have HSO := Lib.hid (sort_I (w.heap.size + 1) vg _ wr hI.out.row (by omega))
      have HIR := Lib.hid hI.out
      clear hI hrl
      generalize rawM t purp sd = raw at *
      generalize (raw.mergeSort fun x y => decide (x ≤ y)) = srt at *
      go_wp2_with fail
      refine HSO.out.mono ?_
      rintro e w11 ⟨rfl, ho, hg⟩
      have HB11 := Lib.hid (HIR.out.bel.grown hg HIR.out.bel.size (fun g hg => by have := (HIR.out.row.lt hg).1; omega))
      have HO11 := Lib.hid ho
      have HH11 := Lib.hid (HIR.out.inn.grown' hg HIR.out.own)
      have HOW := Lib.hid HIR.out.own
      clear ho hg HSO HIR
      go_wp2_with fail
      have hcl : (Lib.compact srt).length ≤ srt.length := Lib.compact_length_le srt
      refine (compact_I (w.heap.size + 1) vg srt w11 HO11.out (by omega)).mono ?_
      rintro e w12 ⟨⟨v12, rfl, ho, how⟩, hg⟩
      have HB12 := Lib.hid (HB11.out.grown hg HB11.out.size (fun g hg => by have := (HO11.out.lt hg).1; omega))
      have HO12 := Lib.hid ho
      have HH12 := Lib.hid (HH11.out.grown' hg HOW.out)
      have HOW12 := Lib.hid (fun g (h : v12.ownBlock = some g) => HOW.out g (how ▸ h))
      generalize Lib.compact srt = cmp at *
      clear ho hg how HB11 HO11 HH11 HOW
      go_wp2_with fail
      refine (deleteFunc_I H1 81 [] (fun m => decide (4321440 ≤ m)) cmp (fun W d _ hW => past_any d W) (fun _ _ => by kernel_rfl) (w.heap.size + 1) v12 w12 HH12.out HO12.out HOW12.out (by omega)).mono ?_
      rintro e w13 ⟨⟨v13, rfl, ho, how⟩, hg⟩
      have HF : Hid (MomPost w (momF t purp sd) (.returned v13) w13) := ⟨v13, rfl, by rw [HMF.out]; exact ho.mono (by omega), HB12.out.grown hg HB12.out.size (fun g hg => by have := (HO12.out.lt hg).1; omega)⟩
      clear ho hg how HB12 HO12 HH12 HOW12 HMF
      go_wp2_with fail
      go_ret
      exact HF.out
end Go.Proofs.YtbhccicibmcafaaGreatDoor

/- Periods and the next moment, plain. -/
namespace Go.Proofs.YtbhccicibmcafaaGreatDoor
set_option linter.unusedVariables false
open Go.RowKit
def eqA (a b : AnsD) : Bool := (a.may == b.may) && ((a.why == b.why) && (a.no == b.no))
theorem eqA_iff {a b : AnsD} : eqA a b = true ↔ a = b := by
  unfold eqA
  obtain ⟨a1, a2, a3⟩ := a
  obtain ⟨b1, b2, b3⟩ := b
  simp
def nextF (ans : Int → AnsD) (ms : List Int) (at_ : Int) : Int := ((ms.find? fun m => decide (at_ < m) && !eqA (ans m) (ans at_)).getD 4321440)
structure PerD where
  from_ : Int
  upto_ : Int
  a : AnsD
def fPer (d : PerD) : Nat → Value
  | 0 => .int .i64 d.from_
  | 1 => .int .i64 d.upto_
  | 2 => .bool d.a.may
  | 3 => .int .i64 d.a.why
  | _ => .int .i64 d.a.no
/-- One round: the periods but the last, and the last one. -/
def perStep (ans : Int → AnsD) (s : List PerD × PerD) (m : Int) : List PerD × PerD :=
  if eqA (ans m) s.2.a = true then s else (s.1 ++ [⟨s.2.from_, m, s.2.a⟩], ⟨m, 4321440, ans m⟩)
def perS (ans : Int → AnsD) (ms : List Int) : List PerD × PerD := ms.foldl (perStep ans) ([], ⟨0, 4321440, ans 0⟩)
def perF (ans : Int → AnsD) (ms : List Int) : List PerD := (perS ans ms).1 ++ [(perS ans ms).2]
theorem perS_snoc (ans : Int → AnsD) {ms : List Int} {k : Nat} (h : k < ms.length) : perS ans (ms.take (k + 1)) = perStep ans (perS ans (ms.take k)) ms[k] := by
  unfold perS
  rw [List.take_succ_eq_append_getElem h, List.foldl_append]
  rfl
theorem perS_len (ans : Int → AnsD) (ms : List Int) : (perS ans ms).1.length ≤ ms.length := by
  unfold perS
  have : ∀ (s : List PerD × PerD), (ms.foldl (perStep ans) s).1.length ≤ s.1.length + ms.length := by
    induction ms with
    | nil => intro s; simp
    | cons m ms ih =>
      intro s
      rw [List.foldl_cons]
      have h1 := ih (perStep ans s m)
      have h2 : (perStep ans s m).1.length ≤ s.1.length + 1 := by
        unfold perStep
        split <;> simp
      simp only [List.length_cons]
      omega
  simpa using this ([], ⟨0, 4321440, ans 0⟩)
section
variable {ans : Int → AnsD}
/-- Periods, one behind the other, from f to g. -/
def Good (ans : Int → AnsD) (done : List Int) : Int → List PerD → Int → Prop
  | f, [], g => f = g
  | f, p :: ps, g => p.from_ = f ∧ f < p.upto_ ∧ ans f = p.a ∧ (∀ m ∈ done, f ≤ m → m < p.upto_ → ans m = p.a) ∧ p.upto_ ∈ done ∧ ans p.upto_ ≠ p.a ∧ Good ans done p.upto_ ps g
theorem Good.le {done : List Int} : ∀ {ps : List PerD} {f g : Int}, Good ans done f ps g → f ≤ g
  | [], f, g, h => by rw [show f = g from h]; exact Int.le_refl _
  | p :: ps, f, g, h => by
    obtain ⟨_, h2, _, _, _, _, h7⟩ := h
    have := Good.le h7
    omega
theorem Good.more {done : List Int} {m : Int} (hm : ∀ x ∈ done, x < m) : ∀ {ps : List PerD} {f g : Int}, Good ans done f ps g → Good ans (done ++ [m]) f ps g
  | [], f, g, h => h
  | p :: ps, f, g, h => by
    obtain ⟨h1, h2, h3, h4, h5, h6, h7⟩ := h
    refine ⟨h1, h2, h3, fun x hx a b => ?_, List.mem_append_left _ h5, h6, Good.more hm h7⟩
    rcases List.mem_append.1 hx with hx | hx
    · exact h4 x hx a b
    · simp at hx
      subst hx
      have := hm _ h5
      omega
theorem Good.snoc {done : List Int} {q : PerD} : ∀ {ps : List PerD} {f g : Int}, Good ans done f ps g → q.from_ = g → g < q.upto_ → ans g = q.a → (∀ m ∈ done, g ≤ m → m < q.upto_ → ans m = q.a) → q.upto_ ∈ done → ans q.upto_ ≠ q.a → Good ans done f (ps ++ [q]) q.upto_
  | [], f, g, h, a1, a2, a3, a4, a5, a6 => by
    have e : f = g := h
    subst e
    exact ⟨a1, a2, a3, a4, a5, a6, rfl⟩
  | p :: ps, f, g, h, a1, a2, a3, a4, a5, a6 => by
    obtain ⟨h1, h2, h3, h4, h5, h6, h7⟩ := h
    exact ⟨h1, h2, h3, h4, h5, h6, Good.snoc h7 a1 a2 a3 a4 a5 a6⟩
structure PInv (ans : Int → AnsD) (done : List Int) (s : List PerD × PerD) : Prop where
  good : Good ans done 0 s.1 s.2.from_
  upto_ : s.2.upto_ = 4321440
  own : ans s.2.from_ = s.2.a
  from_ : s.2.from_ = 0 ∨ s.2.from_ ∈ done
  all : ∀ m ∈ done, s.2.from_ ≤ m → ans m = s.2.a
theorem PInv.step {done : List Int} {s : List PerD × PerD} (h : PInv ans done s) {m : Int} (hm : ∀ x ∈ done, x < m) (h0 : 0 ≤ m) : PInv ans (done ++ [m]) (perStep ans s m) := by
  unfold perStep
  by_cases c : eqA (ans m) s.2.a = true
  · rw [if_pos c]
    refine ⟨h.good.more hm, h.upto_, h.own, h.from_.imp id (List.mem_append_left _), fun x hx a => ?_⟩
    rcases List.mem_append.1 hx with hx | hx
    · exact h.all x hx a
    · simp at hx
      subst hx
      exact eqA_iff.1 c
  · rw [if_neg c]
    have hne : ans m ≠ s.2.a := fun e => c (eqA_iff.2 e)
    have hlt : s.2.from_ < m := by
      rcases h.from_ with e | e
      · rw [e]
        by_cases hm0 : m = 0
        · subst hm0
          have := h.own
          rw [e] at this
          exact absurd this hne
        · omega
      · exact hm _ e
    have hg : Good ans (done ++ [m]) 0 (s.1 ++ [⟨s.2.from_, m, s.2.a⟩]) m :=
      Good.snoc (q := ⟨s.2.from_, m, s.2.a⟩) (h.good.more hm) rfl hlt h.own (fun x hx a b => by
        rcases List.mem_append.1 hx with hx | hx
        · exact h.all x hx a
        · simp at hx
          subst hx
          have b' : x < x := b
          omega) (by simp) hne
    refine ⟨hg, rfl, rfl, Or.inr (by simp), fun x hx a => ?_⟩
    have a' : m ≤ x := a
    rcases List.mem_append.1 hx with hx | hx
    · have := hm x hx
      omega
    · simp at hx
      subst hx
      rfl
theorem perS_inv {ms : List Int} (hs : ms.Pairwise fun a b => a < b) (h0 : ∀ m ∈ ms, 0 ≤ m) : PInv ans ms (perS ans ms) := by
  have : ∀ n, n ≤ ms.length → PInv ans (ms.take n) (perS ans (ms.take n)) := by
    intro n
    induction n with
    | zero => intro _; exact ⟨rfl, rfl, rfl, Or.inl rfl, fun m hm => by simp at hm⟩
    | succ n ih =>
      intro hn
      have hlt : n < ms.length := by omega
      rw [perS_snoc ans hlt, List.take_succ_eq_append_getElem hlt]
      refine (ih (by omega)).step (fun x hx => ?_) (h0 _ (List.getElem_mem hlt))
      obtain ⟨i, hi, rfl⟩ := List.mem_iff_getElem.1 hx
      simp at hi
      rw [List.getElem_take]
      exact List.pairwise_iff_getElem.1 hs i n (by omega) hlt (by omega)
  have h := this ms.length (Nat.le_refl _)
  rwa [List.take_length] at h
/-- What is known of the i-th period. -/
structure PAt (ans : Int → AnsD) (ms : List Int) (x : List PerD) (i : Nat) (v : PerD) : Prop where
  from_ : v.from_ = if i = 0 then 0 else (x.getD (i - 1) v).upto_
  lt : v.from_ < v.upto_
  own : ans v.from_ = v.a
  all : ∀ m ∈ ms, v.from_ ≤ m → m < v.upto_ → ans m = v.a
  next : (i + 1 = x.length ∧ v.upto_ = 4321440) ∨ (i + 1 < x.length ∧ v.upto_ ∈ ms ∧ ans v.upto_ ≠ v.a)
  differ : 0 < i → v.a ≠ (x.getD (i - 1) v).a
theorem good_at {done : List Int} : ∀ {ps : List PerD} {f g : Int} {q : PerD}, Good ans done f ps g → q.from_ = g → g < q.upto_ → q.upto_ = 4321440 → ans g = q.a → (∀ m ∈ done, g ≤ m → ans m = q.a) →
    ∀ i (hi : i < (ps ++ [q]).length), ((ps ++ [q])[i].from_ = if i = 0 then f else ((ps ++ [q]).getD (i - 1) q).upto_) ∧ (ps ++ [q])[i].from_ < (ps ++ [q])[i].upto_ ∧ ans (ps ++ [q])[i].from_ = (ps ++ [q])[i].a ∧ (∀ m ∈ done, (ps ++ [q])[i].from_ ≤ m → m < (ps ++ [q])[i].upto_ → ans m = (ps ++ [q])[i].a) ∧
      ((i + 1 = (ps ++ [q]).length ∧ (ps ++ [q])[i].upto_ = 4321440) ∨ (i + 1 < (ps ++ [q]).length ∧ (ps ++ [q])[i].upto_ ∈ done ∧ ans (ps ++ [q])[i].upto_ ≠ (ps ++ [q])[i].a))
  | [], f, g, q, h, a1, a2, a3, a4, a5, i, hi => by
    have e : f = g := h
    subst e
    have hi0 : i = 0 := by simpa using hi
    subst hi0
    have a1' := a1
    refine ⟨a1, by show q.from_ < q.upto_; omega, by show ans q.from_ = q.a; rw [a1]; exact a4, fun m hm b c => a5 m hm (by rw [← a1]; exact b), Or.inl ⟨rfl, a3⟩⟩
  | p :: ps, f, g, q, h, a1, a2, a3, a4, a5, 0, hi => by
    obtain ⟨h1, h2, h3, h4, h5, h6, h7⟩ := h
    refine ⟨h1, by show p.from_ < p.upto_; omega, by show ans p.from_ = p.a; rw [h1]; exact h3, fun m hm b c => h4 m hm (by rw [← h1]; exact b) c, Or.inr ⟨by simp, h5, h6⟩⟩
  | p :: ps, f, g, q, h, a1, a2, a3, a4, a5, i + 1, hi => by
    obtain ⟨h1, h2, h3, h4, h5, h6, h7⟩ := h
    have hi' : i < (ps ++ [q]).length := by simpa using hi
    obtain ⟨b1, b2, b3, b4, b5⟩ := good_at h7 a1 a2 a3 a4 a5 i hi'
    refine ⟨?_, b2, b3, b4, ?_⟩
    · show (ps ++ [q])[i].from_ = _
      rw [b1]
      by_cases c : i = 0
      · subst c
        rfl
      · rw [if_neg c, if_neg (by omega)]
        have : i + 1 - 1 = (i - 1) + 1 := by omega
        rw [this]
        rfl
    · show (i + 1 + 1 = (ps ++ [q]).length + 1 ∧ _) ∨ (i + 1 + 1 < (ps ++ [q]).length + 1 ∧ _)
      rcases b5 with b5 | b5
      · exact Or.inl ⟨by omega, b5.2⟩
      · exact Or.inr ⟨by omega, b5.2⟩
theorem per_at {ms : List Int} (hs : ms.Pairwise fun a b => a < b) (h0 : ∀ m ∈ ms, 0 ≤ m ∧ m < 4321440) (i : Nat) (hi : i < (perF ans ms).length) : PAt ans ms (perF ans ms) i (perF ans ms)[i] := by
  have hI := perS_inv (ans := ans) hs fun m hm => (h0 m hm).1
  have hlt : (perS ans ms).2.from_ < (perS ans ms).2.upto_ := by
    rw [hI.upto_]
    rcases hI.from_ with e | e
    · omega
    · exact (h0 _ e).2
  have key := good_at hI.good rfl hlt hI.upto_ hI.own hI.all
  have gd : ∀ j (hj : j < (perF ans ms).length) (d : PerD), (perF ans ms).getD j d = (perF ans ms)[j] := fun j hj d => by rw [List.getD_eq_getElem?_getD, List.getElem?_eq_getElem hj]; rfl
  obtain ⟨b1, b2, b3, b4, b5⟩ := key i hi
  refine ⟨?_, b2, b3, b4, b5, fun hi0 => ?_⟩
  · show (perF ans ms)[i].from_ = _
    by_cases c : i = 0
    · subst c
      rw [if_pos rfl]
      exact b1
    · rw [if_neg c, gd (i - 1) (by omega)]
      have b1' : (perF ans ms)[i].from_ = ((perF ans ms).getD (i - 1) (perS ans ms).2).upto_ := by
        have := b1
        rw [if_neg c] at this
        exact this
      rw [b1', gd (i - 1) (by omega)]
  · rw [gd (i - 1) (by omega)]
    obtain ⟨c1, c2, c3, c4, c5⟩ := key (i - 1) (by show i - 1 < (perF ans ms).length; omega)
    have b1' : (perF ans ms)[i].from_ = ((perF ans ms).getD (i - 1) (perS ans ms).2).upto_ := by
      have := b1
      rw [if_neg (by omega)] at this
      exact this
    rw [gd (i - 1) (by omega)] at b1'
    have b3' : ans (perF ans ms)[i].from_ = (perF ans ms)[i].a := b3
    rcases c5 with c5 | c5
    · have : i - 1 + 1 = (perF ans ms).length := c5.1
      omega
    · have c6 : ans (perF ans ms)[i - 1].upto_ ≠ (perF ans ms)[i - 1].a := c5.2.2
      rw [← b3', b1']
      exact c6
/-- Within a period the answer stays, and its end is the next moment. -/
theorem per_const {ms : List Int} (hstep : ∀ x, 0 ≤ x → x + 1 < 4321440 → x + 1 ∉ ms → ans (x + 1) = ans x) {x : List PerD} {i : Nat} {v : PerD} (hv : PAt ans ms x i v) (h0 : 0 ≤ v.from_) (h1 : v.upto_ ≤ 4321440) : ∀ m, v.from_ ≤ m → m < v.upto_ → ans m = v.a := by
  have : ∀ n : Nat, v.from_ + n < v.upto_ → ans (v.from_ + n) = v.a := by
    intro n
    induction n with
    | zero => intro _; rw [show v.from_ + ((0 : Nat) : Int) = v.from_ from by omega]; exact hv.own
    | succ n ih =>
      intro h
      have e : v.from_ + ((n + 1 : Nat) : Int) = (v.from_ + n) + 1 := by omega
      rw [e] at h ⊢
      by_cases c : (v.from_ + n) + 1 ∈ ms
      · exact hv.all _ c (by omega) h
      · rw [hstep _ (by omega) (by omega) c]
        exact ih (by omega)
  intro m a b
  have := this (m - v.from_).toNat (by omega)
  rwa [show v.from_ + ((m - v.from_).toNat : Int) = m from by omega] at this
theorem per_next {ms : List Int} (hs : ms.Pairwise fun a b => a < b) (hm : ∀ m ∈ ms, m < 4321440) {x : List PerD} {i : Nat} {v : PerD} (hv : PAt ans ms x i v) (hc : ∀ m, v.from_ ≤ m → m < v.upto_ → ans m = v.a) (m : Int) (h1 : v.from_ ≤ m) (h2 : m < v.upto_) : nextF ans ms m = v.upto_ := by
  unfold nextF
  rw [hc m h1 h2]
  cases e : ms.find? (fun k => decide (m < k) && !eqA (ans k) v.a) with
  | none =>
    rw [List.find?_eq_none] at e
    rcases hv.next with h | ⟨_, h3, h4⟩
    · exact h.2.symm
    · exfalso
      apply e _ h3
      have : eqA (ans v.upto_) v.a = false := by
        cases c : eqA (ans v.upto_) v.a with
        | false => rfl
        | true => exact absurd (eqA_iff.1 c) h4
      rw [this]
      simp
      exact h2
  | some r =>
    show r = v.upto_
    have hp := List.find?_some e
    have hr := List.mem_of_find?_eq_some e
    simp only [Bool.and_eq_true, decide_eq_true_eq, Bool.not_eq_true'] at hp
    have hge : v.upto_ ≤ r := by
      by_cases c : r < v.upto_
      · have := hc r (by omega) c
        have h5 := eqA_iff.2 this
        rw [h5] at hp
        cases hp.2
      · omega
    rcases hv.next with h | ⟨_, h3, h4⟩
    · have := hm r hr
      omega
    · by_cases c : v.upto_ < r
      · exfalso
        obtain ⟨_, la, lb, hl, has⟩ := List.find?_eq_some_iff_append.1 e
        rw [hl] at h3 hs
        rw [List.pairwise_append] at hs
        obtain ⟨_, hs2, _⟩ := hs
        rw [List.pairwise_cons] at hs2
        rcases List.mem_append.1 h3 with h | h
        · have h5 := has _ h
          have : eqA (ans v.upto_) v.a = false := by
            cases c : eqA (ans v.upto_) v.a with
            | false => rfl
            | true => exact absurd (eqA_iff.1 c) h4
          rw [this] at h5
          simp at h5
          omega
        · rcases List.mem_cons.1 h with h | h
          · omega
          · have := hs2.1 _ h
            omega
      · omega
end
end Go.Proofs.YtbhccicibmcafaaGreatDoor

/- Consents: Next. -/
namespace Go.Proofs.YtbhccicibmcafaaGreatDoor
set_option linter.unusedVariables false
open Go.RowKit
theorem momF_len (t : TermD) (purp : ByteArray) (sd : List StD) : (momF t purp sd).length ≤ 3 * sd.length := by
  unfold momF
  have h1 := List.length_filter_le (fun m : Int => !decide (4321440 ≤ m)) (Lib.compact ((rawM t purp sd).mergeSort fun x y => decide (x ≤ y)))
  have h2 := Lib.compact_length_le ((rawM t purp sd).mergeSort fun x y => decide (x ≤ y))
  rw [List.length_mergeSort] at h2
  have h3 := rawM_len t purp sd
  omega
theorem said_bd2 {ps : List PurD} {ss : List StD} (h : sayErr idErr ps ss = 0) (kind : Int) (text : ByteArray) (ch : Int) : ∀ s ∈ saidF ss kind text ch, 0 ≤ s.at_ := fun s hs => by
  have h1 := (List.mem_filter.1 ((isort_perm _ _).mem_iff.1 hs)).1
  obtain ⟨_, _, _, h4⟩ := (say_iff ps ss).1 h
  have := h4 s h1
  unfold stOne at this
  split at this
  · cases this
  · split at this
    · cases this
    · rename_i c
      have := Classical.not_not.1 c
      omega
theorem mom_bd {t : TermD} {purp : ByteArray} {sd : List StD} (h : ∀ s ∈ sd, 0 ≤ s.at_) (ht : TB t) : ∀ m ∈ momF t purp sd, 0 ≤ m ∧ m ≤ 4321439 := by
  intro m hm
  obtain ⟨h1, h2⟩ := (momF_mem t purp sd m).1 hm
  obtain ⟨s, hs, h3⟩ := List.mem_flatMap.1 h1
  have h4 := h s hs
  obtain ⟨⟨d1, d2⟩, w1, w2⟩ := ht
  refine ⟨?_, by omega⟩
  unfold momOf at h3
  split at h3
  · simp at h3
    rcases h3 with h3 | h3 | h3 <;> omega
  · simp at h3
    omega
theorem find_none_take {D : Type} {p : D → Bool} {l : List D} (h : (l.take l.length).find? p = none) : l.find? p = none := by rwa [List.take_length] at h
def NxtPost (w : World) (n er : Int) (e : Ending) (w' : World) : Prop := e = .returned (.tuple #[.int .i64 n, .int .i64 er]) ∧ Below w.heap.size w w'
def nextV (ans : Int → AnsD) (ms : List Int) (at_ ae : Int) : Int := if ae ≠ 0 then 0 else nextF ans ms at_
set_option maxHeartbeats 8000000 in
set_option maxRecDepth 100000 in
theorem next_any2 (H : Frz) (hM : MLen H) (A : Option Addr) (cap : Nat) (ps : List PurD) (A2 : Option Addr) (cap2 : Nat) (ss : List StD) (kind : Int) (text purp region : ByteArray) (ch at_ : Int) (w : World) (hH : H.In w)
    (hP : PolIn H A ps) (hl : ps.length ≤ 1000000) (hR : Rw H A2 8 fSt ss) (hl2 : ss.length < 20) (hsz : SzSt ss) (htz : text.size ≤ 1000000) (hrz : region.size ≤ 1000000) :
    Calls Tryz.prog 25 #[.slice A ps.length cap, .slice A2 ss.length cap2, .agg #[.int .i64 kind, .string text], .string purp, .string region, .int .i64 ch, .int .i64 at_] w (NxtPost w (nextV (answerF (termF ps purp region ch) purp (saidF ss kind text ch)) (momF ((termF ps purp region ch).getD zeroTe) purp (saidF ss kind text ch)) at_ (allErr ps ss [⟨kind, text⟩] 1 purp region ch at_)) (allErr ps ss [⟨kind, text⟩] 1 purp region ch at_)) := by
  have HM0 := Lib.hid (PS.start hH ⟨kind, text⟩ #[.slice A ps.length cap, .string purp, .string region, .int .i64 ch, .int .i64 at_])
  have HM := Lib.hid hM
  have HP := Lib.hid hP
  have HR := Lib.hid hR
  have HSZ := Lib.hid hsz
  have HER := Lib.hid (fun h0 : allErr ps ss [⟨kind, text⟩] 1 purp region ch at_ = 0 => all_right h0)
  clear hH hM hP hR hsz
  go_enter Tryz.func25, Tryz.ntmps25
  go_upto_region 2 with (fail)
  generalize (w.alloc (.cells #[.int .i64 kind, .string text] 32)).alloc (.cells #[.slice A ps.length cap, .string purp, .string region, .int .i64 ch, .int .i64 at_] 80) = W0 at *
  have hk1 := HM0.out.h1
  have hk3 := HM0.out.h3
  have i0_ : W0.cell? ⟨w.heap.size, 0, none⟩ = some (.int .i64 kind) := cell_h hk1 0 rfl
  have i1_ : W0.cell? ⟨w.heap.size, 1, none⟩ = some (.string text) := cell_h hk1 1 rfl
  have q0 : W0.cell? ⟨w.heap.size + 1, 0, none⟩ = some (.slice A ps.length cap) := cell_h hk3 0 rfl
  have q1 : W0.cell? ⟨w.heap.size + 1, 1, none⟩ = some (.string purp) := cell_h hk3 1 rfl
  have q2 : W0.cell? ⟨w.heap.size + 1, 2, none⟩ = some (.string region) := cell_h hk3 2 rfl
  have q3 : W0.cell? ⟨w.heap.size + 1, 3, none⟩ = some (.int .i64 ch) := cell_h hk3 3 rfl
  have q4 : W0.cell? ⟨w.heap.size + 1, 4, none⟩ = some (.int .i64 at_) := cell_h hk3 4 rfl
  obtain ⟨H1, hle, hblk, hin1⟩ := HM0.out.inn.put (.cells #[.int .i64 kind, .string text] 32)
  have hR1 : Rw H1 (some ⟨W0.heap.size, 0, none⟩) 2 fId [⟨kind, text⟩] := Rw_blk hblk
  have HCA := Lib.hid (checkAll_any H1 (HM.out.le hle) A cap ps A2 cap2 ss (some ⟨W0.heap.size, 0, none⟩) 1 [⟨kind, text⟩] 1 purp region ch at_ _ hin1 (HP.out.le hle) hl (HR.out.le hle) (by omega) HSZ.out hR1 (by simp) (fun x hx => by simp at hx; rw [hx]; exact htz) hrz)
  have HM1 := Lib.hid (HM0.out.below (new1 (.cells #[.int .i64 kind, .string text] 32)))
  clear hk1 hk3 hle hblk hin1 hR1 HM0
  go_wp2_with fail
  refine HCA.out.mono ?_
  rintro e w1 ⟨rfl, hb⟩
  have HM2 := Lib.hid (HM1.out.below hb)
  clear i0_ i1_ q0 q1 q2 q3 q4 HCA hb HM1
  generalize allErr ps ss [⟨kind, text⟩] 1 purp region ch at_ = ae at *
  by_cases g1 : ae = 0
  rotate_left
  · have k1 : (ae != 0) = true := by simpa using g1
    have HF := HM2.out.bel
    have HV : Hid (nextV (answerF (termF ps purp region ch) purp (saidF ss kind text ch)) (momF ((termF ps purp region ch).getD zeroTe) purp (saidF ss kind text ch)) at_ ae = 0) := if_pos g1
    have HFF := Lib.hid (show NxtPost w (nextV (answerF (termF ps purp region ch) purp (saidF ss kind text ch)) (momF ((termF ps purp region ch).getD zeroTe) purp (saidF ss kind text ch)) at_ ae) ae (.returned (.tuple #[.int .i64 0, .int .i64 ae])) w1 from ⟨by rw [HV.out], HF⟩)
    clear g1 HV HF
    go_wp2_with fail
    go_ret2
    exact HFF.out
  · obtain ⟨r1, r2, r3⟩ := HER.out g1
    have G1 := Lib.hid g1
    subst g1
    have hpol := say_pol r1
    have hps := pol_right hpol
    have HBD := Lib.hid (said_bd (say_bd r1) kind text ch)
    have hsl := said_len ss kind text ch
    have HTB := Lib.hid (term_tb hpol (purp := purp) (region := region) (ch := ch))
    have HASK := Lib.hid (ask_any H A cap ps purp region ch at_ A2 cap2 ss kind text w1 HM2.out.inn HP.out hps.1 (fun p hp => (tes_right (hps.2 p hp)).1) hl HR.out hl2)
    have HSA := Lib.hid (saidF_at ss kind text ch)
    have HMS := Lib.hid (mom_bd (t := (termF ps purp region ch).getD zeroTe) (purp := purp) (said_bd2 r1 kind text ch) (by
      cases e : termF ps purp region ch with
      | none => exact ⟨by decide, by decide⟩
      | some t => exact term_tb hpol t e))
    have hat := que_at r3
    have i0_ : w1.cell? ⟨w.heap.size, 0, none⟩ = some (.int .i64 kind) := cell_h HM2.out.h1 0 rfl
    have i1_ : w1.cell? ⟨w.heap.size, 1, none⟩ = some (.string text) := cell_h HM2.out.h1 1 rfl
    have q0 : w1.cell? ⟨w.heap.size + 1, 0, none⟩ = some (.slice A ps.length cap) := cell_h HM2.out.h3 0 rfl
    have q1 : w1.cell? ⟨w.heap.size + 1, 1, none⟩ = some (.string purp) := cell_h HM2.out.h3 1 rfl
    have q2 : w1.cell? ⟨w.heap.size + 1, 2, none⟩ = some (.string region) := cell_h HM2.out.h3 2 rfl
    have q3 : w1.cell? ⟨w.heap.size + 1, 3, none⟩ = some (.int .i64 ch) := cell_h HM2.out.h3 3 rfl
    have q4 : w1.cell? ⟨w.heap.size + 1, 4, none⟩ = some (.int .i64 at_) := cell_h HM2.out.h3 4 rfl
    clear r1 r2 r3 hpol hps HER
    generalize saidF ss kind text ch = sd at *
    generalize termF ps purp region ch = o at *
    go_wp2_with fail
    refine HASK.out.mono ?_
    rintro e w2 ⟨v, rfl, hO, hb⟩
    obtain ⟨A4, cap4, H2, hv, hle4, p1, p2, hR4, -⟩ := hO.freeze H
    subst hv
    have hin2 := p1 (HM2.out.inn.below hb)
    have hB2 := HM2.out.bel.trans (hb.mono HM2.out.bel.size)
    clear i0_ i1_ q0 q1 q2 q3 q4 HASK
    obtain ⟨t, ht, -⟩ := terV_eq o
    have HT : Hid (o.getD zeroTe = t) := ht.symm
    have HTT : Hid (TB t) := by
      show TB _
      rw [ht]
      cases o with
      | none => exact ⟨by decide, by decide⟩
      | some t' => exact HTB.out t' rfl
    rw [HT.out] at HMS ⊢
    clear ht
    have HB3 := Lib.hid (hB2.alloc hB2.size (.cells #[.string t.region, .int .i64 t.ch, .bool t.free, .int .i64 t.days, .int .i64 t.wait, .bool o.isSome, .string purp, .slice A4 sd.length cap4] 84))
    obtain ⟨H3, le3, hblk3, hin3⟩ := hin2.put (.cells #[.string t.region, .int .i64 t.ch, .bool t.free, .int .i64 t.days, .int .i64 t.wait, .bool o.isSome, .string purp, .slice A4 sd.length cap4] 84)
    have HIN3 := Lib.hid hin3
    have HR3 := Lib.hid (hR4.le le3)
    have HBK3 := Lib.hid hblk3
    have HAN := Lib.hid (fun m (h : 0 ≤ m ∧ m ≤ 4321439) W (hW : H3.In W) => answer_any H3 A4 cap4 sd o purp m W hW HR3.out HSA.out (by omega) hle4 HBD.out HTB.out (by omega) (by omega))
    have HMO := Lib.hid (fun W (hW : H3.In W) => moments_any H3 A4 cap4 sd t o.isSome purp W hW HR3.out (by omega) HBD.out HTT.out)
    have hml := momF_len t purp sd
    rw [HT.out] at HAN
    clear hO p1 p2 hR4 hin2 hb hB2 le3 hin3 hblk3 HM2 HTB HTT HSA
    go_upto_region 6 with (fail)
    generalize w2.alloc (.cells #[.string t.region, .int .i64 t.ch, .bool t.free, .int .i64 t.days, .int .i64 t.wait, .bool o.isSome, .string purp, .slice A4 sd.length cap4] 84) = W3 at *
    generalize w2.heap.size = qb at *
    have a0 : W3.cell? ⟨qb, 0, none⟩ = some (.string t.region) := cell_h (HIN3.out _ _ HBK3.out) 0 rfl
    have a1 : W3.cell? ⟨qb, 1, none⟩ = some (.int .i64 t.ch) := cell_h (HIN3.out _ _ HBK3.out) 1 rfl
    have a2 : W3.cell? ⟨qb, 2, none⟩ = some (.bool t.free) := cell_h (HIN3.out _ _ HBK3.out) 2 rfl
    have a3 : W3.cell? ⟨qb, 3, none⟩ = some (.int .i64 t.days) := cell_h (HIN3.out _ _ HBK3.out) 3 rfl
    have a4 : W3.cell? ⟨qb, 4, none⟩ = some (.int .i64 t.wait) := cell_h (HIN3.out _ _ HBK3.out) 4 rfl
    have a5 : W3.cell? ⟨qb, 5, none⟩ = some (.bool o.isSome) := cell_h (HIN3.out _ _ HBK3.out) 5 rfl
    have a6 : W3.cell? ⟨qb, 6, none⟩ = some (.string purp) := cell_h (HIN3.out _ _ HBK3.out) 6 rfl
    have a7 : W3.cell? ⟨qb, 7, none⟩ = some (.slice A4 sd.length cap4) := cell_h (HIN3.out _ _ HBK3.out) 7 rfl
    have hat0 : 0 ≤ at_ ∧ at_ ≤ 4321439 := hat
    go_wp2_with fail
    refine (HAN.out at_ hat0 _ HIN3.out).mono ?_
    rintro e w4 ⟨rfl, hb⟩
    clear a0 a1 a2 a3 a4 a5 a6 a7
    have HNV : Hid (nextV (answerF o purp sd) (momF t purp sd) at_ 0 = ((momF t purp sd).find? fun m => decide (at_ < m) && !eqA (answerF o purp sd m) (answerF o purp sd at_)).getD 4321440) := by
      show nextV _ _ _ _ = _
      unfold nextV
      rw [if_neg (by omega)]
      rfl
    generalize hnow : answerF o purp sd at_ = now at *
    clear hnow
    obtain ⟨am, ay, an⟩ := now
    rw [show ansV ⟨am, ay, an⟩ = .agg #[.bool am, .int .i64 ay, .int .i64 an] from rfl]
    have hin4 := HIN3.out.below hb
    have hB4 := HB3.out.trans (hb.mono HB3.out.size)
    obtain ⟨H5, le5, hblk5, hin5⟩ := hin4.put (.cells #[.bool am, .int .i64 ay, .int .i64 an] 37)
    have HB5 := Lib.hid (hB4.alloc hB4.size (.cells #[.bool am, .int .i64 ay, .int .i64 an] 37))
    have HIN5 := Lib.hid hin5
    have HBK5 := Lib.hid hblk5
    have HLE5 := Lib.hid le5
    have HQB5 := Lib.hid (le5 _ _ HBK3.out)
    clear hb hin4 hB4 hin5 hblk5 le5 HBK3 HIN3 HB3
    go_upto_region 7 with (fail)
    generalize w4.alloc (.cells #[.bool am, .int .i64 ay, .int .i64 an] 37) = W5 at *
    generalize w4.heap.size = ab at *
    have a0 : W5.cell? ⟨qb, 0, none⟩ = some (.string t.region) := cell_h (HIN5.out _ _ HQB5.out) 0 rfl
    have a1 : W5.cell? ⟨qb, 1, none⟩ = some (.int .i64 t.ch) := cell_h (HIN5.out _ _ HQB5.out) 1 rfl
    have a2 : W5.cell? ⟨qb, 2, none⟩ = some (.bool t.free) := cell_h (HIN5.out _ _ HQB5.out) 2 rfl
    have a3 : W5.cell? ⟨qb, 3, none⟩ = some (.int .i64 t.days) := cell_h (HIN5.out _ _ HQB5.out) 3 rfl
    have a4 : W5.cell? ⟨qb, 4, none⟩ = some (.int .i64 t.wait) := cell_h (HIN5.out _ _ HQB5.out) 4 rfl
    have a5 : W5.cell? ⟨qb, 5, none⟩ = some (.bool o.isSome) := cell_h (HIN5.out _ _ HQB5.out) 5 rfl
    have a6 : W5.cell? ⟨qb, 6, none⟩ = some (.string purp) := cell_h (HIN5.out _ _ HQB5.out) 6 rfl
    have a7 : W5.cell? ⟨qb, 7, none⟩ = some (.slice A4 sd.length cap4) := cell_h (HIN5.out _ _ HQB5.out) 7 rfl
    go_wp2_with fail
    refine (HMO.out _ (HIN5.out.le HLE5.out)).mono ?_
    rintro e w6 ⟨v, rfl, hO, hb⟩
    obtain ⟨A6, cap6, H6, hv, hle6, p1, p2, hR6, -⟩ := hO.freeze H5
    subst hv
    have HIN6 := Lib.hid (p1 (HIN5.out.below hb))
    have le6 := p2 (fun g hg => HIN5.out.none_ (hO.lt hg).1)
    have HLE6 := Lib.hid (HLE5.out.trans le6)
    have HQB6 := Lib.hid (le6 _ _ HQB5.out)
    have HBK6 := Lib.hid (le6 _ _ HBK5.out)
    have HR6 := Lib.hid hR6
    have HB6 := Lib.hid (HB5.out.trans (hb.mono HB5.out.size))
    clear a0 a1 a2 a3 a4 a5 a6 a7 hO p1 p2 hR6 le6 hb HB5 HIN5 HQB5 HBK5 HLE5 HMO
    generalize hms : momF t purp sd = ms at *
    have HMM : Hid (momF (o.getD zeroTe) purp sd = ms) := by show _ = _; rw [HT.out]; exact hms
    clear hms
    go_wp2_with fail
    go_loopw [21, 46] (fun _ i wr => ∃ k : Nat, k ≤ ms.length ∧ i = .int .i64 k ∧ Hid ((ms.take k).find? (fun m => decide (at_ < m) && !eqA (answerF o purp sd m) ⟨am, ay, an⟩) = none) ∧ Hid (Below w6.heap.size w6 wr)) (fun _ i _ => ms.length - (intOf i).toNat)
    case atStart => exact ⟨0, by omega, rfl, Lib.hid rfl, Below.refl _ _⟩
    case round =>
      obtain ⟨k, hk, rfl, hfn, hbw⟩ := hrel
      have hinw := HIN6.out.below hbw.out
      by_cases hlt : k < ms.length
      · obtain ⟨b, off, hA6, hbl, hc⟩ := HR6.out.at_ hinw hlt (by omega)
        subst hA6
        have c0 : wr.cell? ⟨b, off + k, none⟩ = some (.int .i64 ms[k]) := by have := hc 0 (by omega); simpa [fI] using this
        have HN := Lib.hid (fun h2 => find_none_snoc hlt hfn.out h2)
        have HS := Lib.hid (fun h2 => find_some_at hlt hfn.out h2)
        have hmb := HMS.out _ (List.getElem_mem hlt)
        clear hc
        generalize ms[k] = m at *
        have HAM := Lib.hid (fun W (hW : Below wr.heap.size wr W) => HAN.out m hmb W ((HIN6.out.below (hbw.out.trans (hW.mono hbw.out.size))).le HLE6.out))
        have a0 : wr.cell? ⟨qb, 0, none⟩ = some (.string t.region) := cell_h (hinw _ _ HQB6.out) 0 rfl
        have a1 : wr.cell? ⟨qb, 1, none⟩ = some (.int .i64 t.ch) := cell_h (hinw _ _ HQB6.out) 1 rfl
        have a2 : wr.cell? ⟨qb, 2, none⟩ = some (.bool t.free) := cell_h (hinw _ _ HQB6.out) 2 rfl
        have a3 : wr.cell? ⟨qb, 3, none⟩ = some (.int .i64 t.days) := cell_h (hinw _ _ HQB6.out) 3 rfl
        have a4 : wr.cell? ⟨qb, 4, none⟩ = some (.int .i64 t.wait) := cell_h (hinw _ _ HQB6.out) 4 rfl
        have a5 : wr.cell? ⟨qb, 5, none⟩ = some (.bool o.isSome) := cell_h (hinw _ _ HQB6.out) 5 rfl
        have a6 : wr.cell? ⟨qb, 6, none⟩ = some (.string purp) := cell_h (hinw _ _ HQB6.out) 6 rfl
        have a7 : wr.cell? ⟨qb, 7, none⟩ = some (.slice A4 sd.length cap4) := cell_h (hinw _ _ HQB6.out) 7 rfl
        have x0 : wr.cell? ⟨ab, 0, none⟩ = some (.bool am) := cell_h (hinw _ _ HBK6.out) 0 rfl
        have x1 : wr.cell? ⟨ab, 1, none⟩ = some (.int .i64 ay) := cell_h (hinw _ _ HBK6.out) 1 rfl
        have x2 : wr.cell? ⟨ab, 2, none⟩ = some (.int .i64 an) := cell_h (hinw _ _ HBK6.out) 2 rfl
        clear hinw
        go_upto_region 10 with (fail)
        clear c0
        have K0 := lift_cell a0
        have K1 := lift_cell a1
        have K2 := lift_cell a2
        have K3 := lift_cell a3
        have K4 := lift_cell a4
        have K5 := lift_cell a5
        have K6 := lift_cell a6
        have K7 := lift_cell a7
        have J0 := lift_cell x0
        have J1 := lift_cell x1
        have J2 := lift_cell x2
        clear a0 a1 a2 a3 a4 a5 a6 a7 x0 x1 x2
        by_cases hgt : at_ < m
        · have d1 : decide (at_ < m) = true := by simpa using hgt
          have HP := Lib.hid (show (decide (at_ < m) && !eqA (answerF o purp sd m) ⟨am, ay, an⟩) = !eqA (answerF o purp sd m) ⟨am, ay, an⟩ from by rw [d1]; rfl)
          generalize hax : answerF o purp sd m = ax at *
          clear hax
          obtain ⟨bm, bY, bn⟩ := ax
          have HEQ : Hid (eqA ⟨bm, bY, bn⟩ ⟨am, ay, an⟩ = ((bm == am) && ((bY == ay) && (bn == an)))) := rfl
          have HAM2 : Hid (∀ W, Below wr.heap.size wr W → Calls Tryz.prog 38 #[.agg #[.string t.region, .int .i64 t.ch, .bool t.free, .int .i64 t.days, .int .i64 t.wait, .bool o.isSome, .string purp, .slice A4 sd.length cap4], .int .i64 m] W fun e w' => e = .returned (.agg #[.bool bm, .int .i64 bY, .int .i64 bn]) ∧ Below W.heap.size W w') := HAM.out
          clear HAM
          by_cases heq : eqA ⟨bm, bY, bn⟩ ⟨am, ay, an⟩ = true
          · have e1 := eqA_iff.1 heq
            injection e1 with e2 e3 e4
            subst e2 e3 e4
            have HN2 := Lib.hid (HN.out (by rw [HP.out, heq]; rfl))
            clear heq HN HS HP HEQ hgt
            (refine wp_region_det 9 62 (fun W => Below (wr).heap.size (wr) W) (by kernel_rfl) (by kernel_rfl) (by rfl) (Below.refl _ _).drew ?_; simp only [List.take_succ_cons, List.take_zero, List.drop_succ_cons, List.drop_zero])
            iterate 2 (refine detSeq_op rfl ?_ (fun W hW => ?_) ?_; rotate_left; (focus simp only [OpV]; go_simp; first | exact rfl | exact ⟨rfl, hW⟩))
            (refine detSeq_op rfl (.bool true) (fun W hW => ?_) ?_; focus (simp only [OpV]; go_simp; first | exact rfl | exact ⟨by rw [d1], hW⟩ | skip))
            iterate 1 (refine detSeq_op rfl ?_ (fun W hW => ?_) ?_; rotate_left; (focus simp only [OpV]; go_simp; first | exact rfl | exact ⟨rfl, hW⟩))
            iterate 2 (refine detSeq_yes (by kernel_rfl) ?_ (fun W hW => ?_) ?_; rotate_left; (focus simp only [OpV]; go_simp; first | exact rfl | exact ⟨rfl, hW⟩))
            (refine detSeq_yes (by kernel_rfl) ?_ (fun W hW => ?_) ?_; rotate_left; focus (simp only [OpV]; go_simp; refine (HAM2.out W hW).mono ?_; rintro e w' ⟨rfl, hb⟩; refine ⟨_, rfl, ?_, det_back hW hb⟩; exact rfl))
            iterate 1 (refine detSeq_yes (by kernel_rfl) ?_ (fun W hW => ?_) ?_; rotate_left; (focus simp only [OpV]; go_simp; first | exact rfl | exact ⟨rfl, hW⟩))
            (refine detSeq_yes (by kernel_rfl) (.bool false) (fun W hW => ?_) ?_; focus (simp only [OpV]; go_simp; first | exact rfl | exact ⟨rfl, hW⟩ | (refine ⟨?_, hW⟩; simp) | skip))
            refine detSeq_nil (fun W3 hW3 => ?_)
            have HB7 := Lib.hid (hbw.out.trans (hW3.mono hbw.out.size))
            clear K0 K1 K2 K3 K4 K5 K6 K7 J0 J1 J2 hW3 hbw
            go_wp2_with fail
            go_roundw
            case rel => exact ⟨k + 1, by omega, by go_num, HN2, HB7⟩
            case measure => simp [intOf]; omega
          · have heqf : eqA ⟨bm, bY, bn⟩ ⟨am, ay, an⟩ = false := by simpa using heq
            have HS2 := Lib.hid (HS.out (by rw [HP.out, heqf]; rfl))
            have hnq : ¬ (bm = am ∧ bY = ay ∧ bn = an) := fun h => heq (eqA_iff.2 (by rw [h.1, h.2.1, h.2.2]))
            have HF := Lib.hid (HB6.out.trans (hbw.out.mono HB6.out.size))
            rw [HS2.out] at HNV
            clear heq heqf HN HS HP HEQ hgt HS2
            (refine wp_region_det 9 62 (fun W => Below (wr).heap.size (wr) W) (by kernel_rfl) (by kernel_rfl) (by rfl) (Below.refl _ _).drew ?_; simp only [List.take_succ_cons, List.take_zero, List.drop_succ_cons, List.drop_zero])
            iterate 2 (refine detSeq_op rfl ?_ (fun W hW => ?_) ?_; rotate_left; (focus simp only [OpV]; go_simp; first | exact rfl | exact ⟨rfl, hW⟩))
            (refine detSeq_op rfl (.bool true) (fun W hW => ?_) ?_; focus (simp only [OpV]; go_simp; first | exact rfl | exact ⟨by rw [d1], hW⟩ | skip))
            iterate 1 (refine detSeq_op rfl ?_ (fun W hW => ?_) ?_; rotate_left; (focus simp only [OpV]; go_simp; first | exact rfl | exact ⟨rfl, hW⟩))
            iterate 2 (refine detSeq_yes (by kernel_rfl) ?_ (fun W hW => ?_) ?_; rotate_left; (focus simp only [OpV]; go_simp; first | exact rfl | exact ⟨rfl, hW⟩))
            (refine detSeq_yes (by kernel_rfl) ?_ (fun W hW => ?_) ?_; rotate_left; focus (simp only [OpV]; go_simp; refine (HAM2.out W hW).mono ?_; rintro e w' ⟨rfl, hb⟩; refine ⟨_, rfl, ?_, det_back hW hb⟩; exact rfl))
            iterate 1 (refine detSeq_yes (by kernel_rfl) ?_ (fun W hW => ?_) ?_; rotate_left; (focus simp only [OpV]; go_simp; first | exact rfl | exact ⟨rfl, hW⟩))
            (refine detSeq_yes (by kernel_rfl) (.bool true) (fun W hW => ?_) ?_; focus (simp only [OpV]; go_simp; by_cases c1 : bm = am <;> by_cases c2 : bY = ay <;> by_cases c3 : bn = an <;> simp [c1, c2, c3] <;> first | exact hW | exact (hnq ⟨c1, c2, c3⟩).elim))
            refine detSeq_nil (fun W3 hW3 => ?_)
            have HFF := Lib.hid (show NxtPost w (nextV (answerF o purp sd) ms at_ 0) 0 (.returned (.tuple #[.int .i64 m, .int .i64 0])) W3 from ⟨by rw [HNV.out]; rfl, HF.out.trans (hW3.mono HF.out.size)⟩)
            clear K0 K1 K2 K3 K4 K5 K6 K7 J0 J1 J2 hW3 hbw HF HNV
            go_wp2_with fail
            go_ret2
            rw [HMM.out]; exact HFF.out
        · have d1 : decide (at_ < m) = false := by simpa using hgt
          have HN2 := Lib.hid (HN.out (by rw [d1]; rfl))
          clear HN HS hgt HAM
          (refine wp_region_det 9 62 (fun W => Below (wr).heap.size (wr) W) (by kernel_rfl) (by kernel_rfl) (by rfl) (Below.refl _ _).drew ?_; simp only [List.take_succ_cons, List.take_zero, List.drop_succ_cons, List.drop_zero])
          iterate 2 (refine detSeq_op rfl ?_ (fun W hW => ?_) ?_; rotate_left; (focus simp only [OpV]; go_simp; first | exact rfl | exact ⟨rfl, hW⟩))
          (refine detSeq_op rfl (.bool false) (fun W hW => ?_) ?_; focus (simp only [OpV]; go_simp; first | exact rfl | exact ⟨by rw [d1], hW⟩ | skip))
          iterate 1 (refine detSeq_op rfl ?_ (fun W hW => ?_) ?_; rotate_left; (focus simp only [OpV]; go_simp; first | exact rfl | exact ⟨rfl, hW⟩))
          iterate 5 (refine detSeq_no (by kernel_rfl) ?_)
          refine detSeq_nil (fun W3 hW3 => ?_)
          have HB7 := Lib.hid (hbw.out.trans (hW3.mono hbw.out.size))
          clear K0 K1 K2 K3 K4 K5 K6 K7 J0 J1 J2 hW3 hbw
          go_wp2_with fail
          go_roundw
          case rel => exact ⟨k + 1, by omega, by go_num, HN2, HB7⟩
          case measure => simp [intOf]; omega
      · have hke : k = ms.length := by omega
        subst hke
        have hfa := Lib.hid (find_none_take hfn.out)
        have HF := Lib.hid (HB6.out.trans (hbw.out.mono HB6.out.size))
        rw [hfa.out] at HNV
        have HFF := Lib.hid (show NxtPost w (nextV (answerF o purp sd) ms at_ 0) 0 (.returned (.tuple #[.int .i64 4321440, .int .i64 0])) wr from ⟨by rw [HNV.out]; rfl, HF.out⟩)
        clear hfn hfa hbw HF HNV
        go_wp2_with fail
        go_ret2
        rw [HMM.out]; exact HFF.out
end Go.Proofs.YtbhccicibmcafaaGreatDoor

/- Consents: Periods. -/
namespace Go.Proofs.YtbhccicibmcafaaGreatDoor
set_option linter.unusedVariables false
open Go.RowKit
/-- A row in the making, in a function that only makes memory. -/
structure IG {D : Type} (T k : Nat) (f : D → Nat → Value) (H : Frz) (B : Nat) (v : Value) (ds : List D) (w W : World) : Prop where
  inn : H.In W
  row : Orow W B T k f v ds
  own : ∀ g, v.ownBlock = some g → H g = none
  bel : Below w.heap.size w W
  hB : w.heap.size ≤ B
  le : B ≤ W.heap.size
section
variable {D : Type} {T k : Nat} {f : D → Nat → Value} {H : Frz} {B : Nat} {v v' : Value} {ds ds' : List D} {w W W' : World}
theorem IG.below (h : IG T k f H B v ds w W) (hb : Below W.heap.size W W') : IG T k f H B v ds w W' :=
  ⟨h.inn.below hb, h.row.below hb, h.own, h.bel.trans (hb.mono h.bel.size), h.hB, Nat.le_trans h.le hb.size⟩
theorem IG.app (h : IG T k f H B v ds w W) (o : Orow W' B T k f v' ds') (g1 : W.grownBy W' v.ownBlock) (at1 : v'.ownBlock = v.ownBlock ∨ ∃ g, v'.ownBlock = some g ∧ W.heap.size < g) : IG T k f H B v' ds' w W' :=
  ⟨h.inn.grown' g1 h.own, o, (fun q hq => by
    rcases at1 with e | ⟨g, e, hg⟩
    · exact h.own q (by rw [← e]; exact hq)
    · rw [e] at hq; injection hq with hq; exact h.inn.none_ (by omega)), h.bel.grown g1 h.bel.size (fun g hg => Nat.le_trans h.hB (h.row.lt hg).1), h.hB, Nat.le_trans h.le g1.size⟩
theorem IG.put (h : IG T k f H B v ds w W) (o : Obj) : ∃ H', H.Le H' ∧ H' W.heap.size = some o ∧ IG T k f H' B v ds w (W.alloc o) := by
  have h2 := h.below (new1 o)
  refine ⟨H.add W.heap.size o, Frz.le_add (h.inn.none_ (Nat.le_refl _)), Frz.add_at _ _ _, h2.inn.add (heap_at rfl), h2.row, fun g hg => ?_, h2.bel, h2.hB, h2.le⟩
  rw [Frz.add_other (by have := (h.row.lt hg).2; omega)]
  exact h.own g hg
theorem IG.less {H' : Frz} (h : IG T k f H' B v ds w W) (hl : H.Le H') : IG T k f H B v ds w W :=
  ⟨h.inn.le hl, h.row, (fun g hg => by
    cases e : H g with
    | none => rfl
    | some o => (have := hl g o e; rw [h.own g hg] at this; cases this)), h.bel, h.hB, h.le⟩
/-- One cell of an element changed. -/
theorem IG.upd {go capg n : Nat} (h : IG T k f H B (.slice (some ⟨go, 0, none⟩) n capg) ds w W) (hn : n = ds.length) {p : Nat} (hp : p < ds.length) {j : Nat} (hj : j < k) (d' : D) {x : Value} (hx : f d' j = x) (ho : ∀ m, m < k → m ≠ j → f d' m = f ds[p] m) :
    W.cell? ⟨go, p * k + j, none⟩ = some (f ds[p] j) ∧ W.frozen? ⟨go, p * k + j, none⟩ = false ∧ IG T k f H B (.slice (some ⟨go, 0, none⟩) n capg) (ds.set p d') w (W.setCell ⟨go, p * k + j, none⟩ x) := by
  subst hn
  have hne : ds ≠ [] := by intro e; rw [e] at hp; simp at hp
  obtain ⟨g', cap', rest, hv, hle', hB', hlt, hm', hblk, hr⟩ := h.row.form hne
  injection hv with e1 _ e2
  injection e1 with e1
  injection e1 with e1
  subst e1 e2
  have hnone : H go = none := h.own go rfl
  refine ⟨hblk.cell p j hp hj, hblk.frozen _, h.inn.setCell (p := ⟨go, p * k + j, none⟩) hnone _, ?_, h.own, h.bel.setCell (show w.heap.size ≤ go from Nat.le_trans h.hB hB') _, h.hB, by have := h.le; simpa [World.setCell] using this⟩
  have := Orow.of_blk (B := B) (hblk.upd p j hp hj hx ho) hB' hm' (by simpa using hle') (by simpa using hr)
  simpa using this
end
theorem infoPer : (Tryz.prog.info? 61).map (fun i => (i.zero, i.size, i.bytes)) = some (some (.agg #[.int .i64 0, .int .i64 0, .bool false, .int .i64 0, .int .i64 0]), 5, 40) := by kernel_rfl
def perV (ans : Int → AnsD) (ms : List Int) (ae : Int) : List PerD := if ae ≠ 0 then [] else perF ans ms
def PerPost (w : World) (l : List PerD) (er : Int) (e : Ending) (w' : World) : Prop := ∃ v, e = .returned (.tuple #[v, .int .i64 er]) ∧ Orow w' w.heap.size 61 5 fPer v l ∧ Below w.heap.size w w'
set_option maxHeartbeats 8000000 in
set_option maxRecDepth 100000 in
theorem periods_any (H : Frz) (hM : MLen H) (A : Option Addr) (cap : Nat) (ps : List PurD) (A2 : Option Addr) (cap2 : Nat) (ss : List StD) (kind : Int) (text purp region : ByteArray) (ch : Int) (w : World) (hH : H.In w)
    (hP : PolIn H A ps) (hl : ps.length ≤ 1000000) (hR : Rw H A2 8 fSt ss) (hl2 : ss.length < 20) (hsz : SzSt ss) (htz : text.size ≤ 1000000) (hrz : region.size ≤ 1000000) :
    Calls Tryz.prog 23 #[.slice A ps.length cap, .slice A2 ss.length cap2, .agg #[.int .i64 kind, .string text], .string purp, .string region, .int .i64 ch] w (PerPost w (perV (answerF (termF ps purp region ch) purp (saidF ss kind text ch)) (momF ((termF ps purp region ch).getD zeroTe) purp (saidF ss kind text ch)) (allErr ps ss [⟨kind, text⟩] 1 purp region ch 0)) (allErr ps ss [⟨kind, text⟩] 1 purp region ch 0)) := by
  obtain ⟨i0, hi0, hz0, hz1, hz2⟩ := info_parts infoPer
  have HM0 := Lib.hid (PS.start hH ⟨kind, text⟩ #[.slice A ps.length cap, .string purp, .string region, .int .i64 ch, .int .i64 0])
  have HM := Lib.hid hM
  have HP := Lib.hid hP
  have HR := Lib.hid hR
  have HSZ := Lib.hid hsz
  have HER := Lib.hid (fun h0 : allErr ps ss [⟨kind, text⟩] 1 purp region ch 0 = 0 => all_right h0)
  clear hH hM hP hR hsz
  go_enter Tryz.func23, Tryz.ntmps23
  go_upto_region 2 with (fail)
  generalize (w.alloc (.cells #[.int .i64 kind, .string text] 32)).alloc (.cells #[.slice A ps.length cap, .string purp, .string region, .int .i64 ch, .int .i64 0] 80) = W0 at *
  have hk1 := HM0.out.h1
  have hk3 := HM0.out.h3
  have i0_ : W0.cell? ⟨w.heap.size, 0, none⟩ = some (.int .i64 kind) := cell_h hk1 0 rfl
  have i1_ : W0.cell? ⟨w.heap.size, 1, none⟩ = some (.string text) := cell_h hk1 1 rfl
  have q0 : W0.cell? ⟨w.heap.size + 1, 0, none⟩ = some (.slice A ps.length cap) := cell_h hk3 0 rfl
  have q1 : W0.cell? ⟨w.heap.size + 1, 1, none⟩ = some (.string purp) := cell_h hk3 1 rfl
  have q2 : W0.cell? ⟨w.heap.size + 1, 2, none⟩ = some (.string region) := cell_h hk3 2 rfl
  have q3 : W0.cell? ⟨w.heap.size + 1, 3, none⟩ = some (.int .i64 ch) := cell_h hk3 3 rfl
  have q4 : W0.cell? ⟨w.heap.size + 1, 4, none⟩ = some (.int .i64 0) := cell_h hk3 4 rfl
  obtain ⟨H1, hle, hblk, hin1⟩ := HM0.out.inn.put (.cells #[.int .i64 kind, .string text] 32)
  have hR1 : Rw H1 (some ⟨W0.heap.size, 0, none⟩) 2 fId [⟨kind, text⟩] := Rw_blk hblk
  have HCA := Lib.hid (checkAll_any H1 (HM.out.le hle) A cap ps A2 cap2 ss (some ⟨W0.heap.size, 0, none⟩) 1 [⟨kind, text⟩] 1 purp region ch 0 _ hin1 (HP.out.le hle) hl (HR.out.le hle) (by omega) HSZ.out hR1 (by simp) (fun x hx => by simp at hx; rw [hx]; exact htz) hrz)
  have HM1 := Lib.hid (HM0.out.below (new1 (.cells #[.int .i64 kind, .string text] 32)))
  clear hk1 hk3 hle hblk hin1 hR1 HM0
  go_wp2_with fail
  refine HCA.out.mono ?_
  rintro e w1 ⟨rfl, hb⟩
  have HM2 := Lib.hid (HM1.out.below hb)
  clear i0_ i1_ q0 q1 q2 q3 q4 HCA hb HM1
  generalize allErr ps ss [⟨kind, text⟩] 1 purp region ch 0 = ae at *
  by_cases g1 : ae = 0
  rotate_left
  · have k1 : (ae != 0) = true := by simpa using g1
    have HFF := Lib.hid (show PerPost w (perV (answerF (termF ps purp region ch) purp (saidF ss kind text ch)) (momF ((termF ps purp region ch).getD zeroTe) purp (saidF ss kind text ch)) ae) ae (.returned (.tuple #[.slice none 0 0, .int .i64 ae])) w1 from ⟨_, rfl, by unfold perV; rw [if_pos g1]; exact Orow.nil _ _ _ _ _, HM2.out.bel⟩)
    clear g1
    go_wp2_with fail
    go_ret2
    exact HFF.out
  · obtain ⟨r1, r2, r3⟩ := HER.out g1
    have G1 := Lib.hid g1
    subst g1
    have hpol := say_pol r1
    have hps := pol_right hpol
    have HBD := Lib.hid (said_bd (say_bd r1) kind text ch)
    have hsl := said_len ss kind text ch
    have HTB := Lib.hid (term_tb hpol (purp := purp) (region := region) (ch := ch))
    have HASK := Lib.hid (ask_any H A cap ps purp region ch 0 A2 cap2 ss kind text w1 HM2.out.inn HP.out hps.1 (fun p hp => (tes_right (hps.2 p hp)).1) hl HR.out hl2)
    have HSA := Lib.hid (saidF_at ss kind text ch)
    have HMS := Lib.hid (mom_bd (t := (termF ps purp region ch).getD zeroTe) (purp := purp) (said_bd2 r1 kind text ch) (by
      cases e : termF ps purp region ch with
      | none => exact ⟨by decide, by decide⟩
      | some t => exact term_tb hpol t e))
    have hat := que_at r3
    have i0_ : w1.cell? ⟨w.heap.size, 0, none⟩ = some (.int .i64 kind) := cell_h HM2.out.h1 0 rfl
    have i1_ : w1.cell? ⟨w.heap.size, 1, none⟩ = some (.string text) := cell_h HM2.out.h1 1 rfl
    have q0 : w1.cell? ⟨w.heap.size + 1, 0, none⟩ = some (.slice A ps.length cap) := cell_h HM2.out.h3 0 rfl
    have q1 : w1.cell? ⟨w.heap.size + 1, 1, none⟩ = some (.string purp) := cell_h HM2.out.h3 1 rfl
    have q2 : w1.cell? ⟨w.heap.size + 1, 2, none⟩ = some (.string region) := cell_h HM2.out.h3 2 rfl
    have q3 : w1.cell? ⟨w.heap.size + 1, 3, none⟩ = some (.int .i64 ch) := cell_h HM2.out.h3 3 rfl
    have q4 : w1.cell? ⟨w.heap.size + 1, 4, none⟩ = some (.int .i64 0) := cell_h HM2.out.h3 4 rfl
    clear r1 r2 r3 hpol hps HER
    generalize saidF ss kind text ch = sd at *
    generalize termF ps purp region ch = o at *
    go_wp2_with fail
    refine HASK.out.mono ?_
    rintro e w2 ⟨v, rfl, hO, hb⟩
    obtain ⟨A4, cap4, H2, hv, hle4, p1, p2, hR4, -⟩ := hO.freeze H
    subst hv
    have hin2 := p1 (HM2.out.inn.below hb)
    have hB2 := HM2.out.bel.trans (hb.mono HM2.out.bel.size)
    clear i0_ i1_ q0 q1 q2 q3 q4 HASK
    obtain ⟨t, ht, -⟩ := terV_eq o
    have HT : Hid (o.getD zeroTe = t) := ht.symm
    have HTT : Hid (TB t) := by
      show TB _
      rw [ht]
      cases o with
      | none => exact ⟨by decide, by decide⟩
      | some t' => exact HTB.out t' rfl
    rw [HT.out] at HMS ⊢
    clear ht
    have HB3 := Lib.hid (hB2.alloc hB2.size (.cells #[.string t.region, .int .i64 t.ch, .bool t.free, .int .i64 t.days, .int .i64 t.wait, .bool o.isSome, .string purp, .slice A4 sd.length cap4] 84))
    obtain ⟨H3, le3, hblk3, hin3⟩ := hin2.put (.cells #[.string t.region, .int .i64 t.ch, .bool t.free, .int .i64 t.days, .int .i64 t.wait, .bool o.isSome, .string purp, .slice A4 sd.length cap4] 84)
    have HIN3 := Lib.hid hin3
    have HR3 := Lib.hid (hR4.le le3)
    have HBK3 := Lib.hid hblk3
    have HAN := Lib.hid (fun m (h : 0 ≤ m ∧ m ≤ 4321439) W (hW : H3.In W) => answer_any H3 A4 cap4 sd o purp m W hW HR3.out HSA.out (by omega) hle4 HBD.out HTB.out (by omega) (by omega))
    have HMO := Lib.hid (fun W (hW : H3.In W) => moments_any H3 A4 cap4 sd t o.isSome purp W hW HR3.out (by omega) HBD.out HTT.out)
    have hml := momF_len t purp sd
    rw [HT.out] at HAN
    clear hO p1 p2 hR4 hin2 hb hB2 le3 hin3 hblk3 HM2 HTB HTT HSA
    go_upto_region 6 with (fail)
    generalize w2.alloc (.cells #[.string t.region, .int .i64 t.ch, .bool t.free, .int .i64 t.days, .int .i64 t.wait, .bool o.isSome, .string purp, .slice A4 sd.length cap4] 84) = W3 at *
    generalize w2.heap.size = qb at *
    have a0 : W3.cell? ⟨qb, 0, none⟩ = some (.string t.region) := cell_h (HIN3.out _ _ HBK3.out) 0 rfl
    have a1 : W3.cell? ⟨qb, 1, none⟩ = some (.int .i64 t.ch) := cell_h (HIN3.out _ _ HBK3.out) 1 rfl
    have a2 : W3.cell? ⟨qb, 2, none⟩ = some (.bool t.free) := cell_h (HIN3.out _ _ HBK3.out) 2 rfl
    have a3 : W3.cell? ⟨qb, 3, none⟩ = some (.int .i64 t.days) := cell_h (HIN3.out _ _ HBK3.out) 3 rfl
    have a4 : W3.cell? ⟨qb, 4, none⟩ = some (.int .i64 t.wait) := cell_h (HIN3.out _ _ HBK3.out) 4 rfl
    have a5 : W3.cell? ⟨qb, 5, none⟩ = some (.bool o.isSome) := cell_h (HIN3.out _ _ HBK3.out) 5 rfl
    have a6 : W3.cell? ⟨qb, 6, none⟩ = some (.string purp) := cell_h (HIN3.out _ _ HBK3.out) 6 rfl
    have a7 : W3.cell? ⟨qb, 7, none⟩ = some (.slice A4 sd.length cap4) := cell_h (HIN3.out _ _ HBK3.out) 7 rfl
    have hat0 : (0 : Int) ≤ 0 ∧ (0 : Int) ≤ 4321439 := by omega
    go_wp2_with fail
    refine (HAN.out 0 hat0 _ HIN3.out).mono ?_
    rintro e w4 ⟨rfl, hb⟩
    clear a0 a1 a2 a3 a4 a5 a6 a7
    generalize hnow : answerF o purp sd 0 = now
    obtain ⟨am, ay, an⟩ := now
    have HP0 : Hid (perS (answerF o purp sd) [] = ([], ⟨0, 4321440, ⟨am, ay, an⟩⟩)) := by
      show _ = _
      rw [← hnow]
      rfl
    clear hnow
    rw [show ansV ⟨am, ay, an⟩ = .agg #[.bool am, .int .i64 ay, .int .i64 an] from rfl]
    have HIN4 := Lib.hid (HIN3.out.below hb)
    have hB4 := HB3.out.trans (hb.mono HB3.out.size)
    have hw4 : w.heap.size ≤ w4.heap.size := hB4.size
    have HI0 : Hid (IG 61 5 fPer H3 w4.heap.size (.slice (some ⟨w4.heap.size, 0, none⟩) 1 1) [⟨0, 4321440, ⟨am, ay, an⟩⟩] w (w4.alloc (.cells #[.int .i64 0, .int .i64 4321440, .bool am, .int .i64 ay, .int .i64 an] 61))) :=
      ⟨HIN4.out.alloc _, Orow.of_blk (rest := []) (heap_alloc_new _ _) (Nat.le_refl _) (by decide) (Nat.le_refl _) rfl, fun g hg => (by have hg2 : w4.heap.size = g := Option.some.inj hg; subst hg2; exact HIN4.out.none_ (Nat.le_refl _)), hB4.alloc hw4 _, hw4, by simp⟩
    clear hb hB4 HIN3 HB3 HIN4
    go_upto_region 7 with (fail)
    generalize hW5 : w4.alloc (.cells #[.int .i64 0, .int .i64 4321440, .bool am, .int .i64 ay, .int .i64 an] 61) = W5 at *
    clear hW5
    generalize w4.heap.size = ib at *
    have a0 : W5.cell? ⟨qb, 0, none⟩ = some (.string t.region) := cell_h (HI0.out.inn _ _ HBK3.out) 0 rfl
    have a1 : W5.cell? ⟨qb, 1, none⟩ = some (.int .i64 t.ch) := cell_h (HI0.out.inn _ _ HBK3.out) 1 rfl
    have a2 : W5.cell? ⟨qb, 2, none⟩ = some (.bool t.free) := cell_h (HI0.out.inn _ _ HBK3.out) 2 rfl
    have a3 : W5.cell? ⟨qb, 3, none⟩ = some (.int .i64 t.days) := cell_h (HI0.out.inn _ _ HBK3.out) 3 rfl
    have a4 : W5.cell? ⟨qb, 4, none⟩ = some (.int .i64 t.wait) := cell_h (HI0.out.inn _ _ HBK3.out) 4 rfl
    have a5 : W5.cell? ⟨qb, 5, none⟩ = some (.bool o.isSome) := cell_h (HI0.out.inn _ _ HBK3.out) 5 rfl
    have a6 : W5.cell? ⟨qb, 6, none⟩ = some (.string purp) := cell_h (HI0.out.inn _ _ HBK3.out) 6 rfl
    have a7 : W5.cell? ⟨qb, 7, none⟩ = some (.slice A4 sd.length cap4) := cell_h (HI0.out.inn _ _ HBK3.out) 7 rfl
    go_wp2_with fail
    refine (HMO.out _ HI0.out.inn).mono ?_
    rintro e w6 ⟨v, rfl, hO, hb⟩
    have hI6 := HI0.out.below hb
    have hB6 := Lib.hid HI0.out.le
    obtain ⟨A6, cap6, H6, hv, hle6, p1, p2, hR6, p3, -⟩ := hO.freeze H3
    subst hv
    have le6 := p2 (fun g hg => HI0.out.inn.none_ (hO.lt hg).1)
    have HI6 : Hid (IG 61 5 fPer H6 ib (.slice (some ⟨ib, 0, none⟩) 1 1) ((perS (answerF o purp sd) []).1 ++ [(perS (answerF o purp sd) []).2]) w w6) := by
      show IG _ _ _ _ _ _ _ _ _
      rw [HP0.out]
      refine ⟨p1 hI6.inn, hI6.row, fun g hg => ?_, hI6.bel, hI6.hB, hI6.le⟩
      have h1 := (HI0.out.row.lt hg).2
      rw [p3 g h1]
      exact hI6.own g hg
    have HLE6 := Lib.hid le6
    have HQB6 := Lib.hid (le6 _ _ HBK3.out)
    have HR6 := Lib.hid hR6
    clear a0 a1 a2 a3 a4 a5 a6 a7 hO p1 p2 p3 hR6 le6 hb hI6 hB6 HI0 HBK3 HMO HP0
    generalize hms : momF t purp sd = ms at *
    have HMM : Hid (momF (o.getD zeroTe) purp sd = ms) := by show _ = _; rw [HT.out]; exact hms
    clear hms
    have HS0 := Lib.hid (show perS (answerF o purp sd) (ms.take 0) = perS (answerF o purp sd) [] from rfl)
    rw [← HS0.out] at HI6
    clear HS0
    go_wp2_with fail
    go_loopw [17, 19, 20, 21, 47] (fun v _ _ _ i wr => ∃ (k : Nat) (v' : Value), k ≤ ms.length ∧ i = .int .i64 k ∧ v = v' ∧ Hid (IG 61 5 fPer H6 ib v' ((perS (answerF o purp sd) (ms.take k)).1 ++ [(perS (answerF o purp sd) (ms.take k)).2]) w wr)) (fun _ _ _ _ i _ => ms.length - (intOf i).toNat)
    case atStart => exact ⟨0, _, by omega, rfl, rfl, HI6⟩
    case round =>
      obtain ⟨k, v', hk, rfl, rfl, hI⟩ := hrel
      clear HI6
      by_cases hlt : k < ms.length
      · obtain ⟨b, off, hA6, hbl, hc⟩ := HR6.out.at_ hI.out.inn hlt (by omega)
        subst hA6
        have c0 : wr.cell? ⟨b, off + k, none⟩ = some (.int .i64 ms[k]) := by have := hc 0 (by omega); simpa [fI] using this
        have HSN := Lib.hid (perS_snoc (answerF o purp sd) hlt)
        have hpl := perS_len (answerF o purp sd) (ms.take k)
        have hmb := HMS.out _ (List.getElem_mem hlt)
        have htk := List.length_take_le k ms
        clear hc
        obtain ⟨s1, hs1⟩ : ∃ l, l = perS (answerF o purp sd) (ms.take (k + 1)) := ⟨_, rfl⟩
        rw [← hs1] at HSN
        have HS1 := Lib.hid hs1
        clear hs1
        generalize ms[k] = m at *
        generalize perS (answerF o purp sd) (ms.take k) = s at *
        obtain ⟨L, d⟩ := s
        obtain ⟨df, du, da⟩ := d
        obtain ⟨am2, ay2, an2⟩ := da
        obtain ⟨g, capg, rest, hv, hlc, hBg, hgl, hcm, hkb, hre⟩ := hI.out.row.form (by simp)
        have hlen : (L ++ [(⟨df, du, ⟨am2, ay2, an2⟩⟩ : PerD)]).length = L.length + 1 := by simp
        simp only [hlen] at hv hlc hre
        subst hv
        have hgq : g ≠ qb := fun c => by
          have h1 := hI.out.own g rfl
          rw [c, HQB6.out] at h1
          cases h1
        have hgp : (L ++ [(⟨df, du, ⟨am2, ay2, an2⟩⟩ : PerD)])[L.length]'(by simp) = ⟨df, du, ⟨am2, ay2, an2⟩⟩ := by simp
        have HAM := Lib.hid (HAN.out m hmb wr (hI.out.inn.le HLE6.out))
        have a0 : wr.cell? ⟨qb, 0, none⟩ = some (.string t.region) := cell_h (hI.out.inn _ _ HQB6.out) 0 rfl
        have a1 : wr.cell? ⟨qb, 1, none⟩ = some (.int .i64 t.ch) := cell_h (hI.out.inn _ _ HQB6.out) 1 rfl
        have a2 : wr.cell? ⟨qb, 2, none⟩ = some (.bool t.free) := cell_h (hI.out.inn _ _ HQB6.out) 2 rfl
        have a3 : wr.cell? ⟨qb, 3, none⟩ = some (.int .i64 t.days) := cell_h (hI.out.inn _ _ HQB6.out) 3 rfl
        have a4 : wr.cell? ⟨qb, 4, none⟩ = some (.int .i64 t.wait) := cell_h (hI.out.inn _ _ HQB6.out) 4 rfl
        have a5 : wr.cell? ⟨qb, 5, none⟩ = some (.bool o.isSome) := cell_h (hI.out.inn _ _ HQB6.out) 5 rfl
        have a6 : wr.cell? ⟨qb, 6, none⟩ = some (.string purp) := cell_h (hI.out.inn _ _ HQB6.out) 6 rfl
        have a7 : wr.cell? ⟨qb, 7, none⟩ = some (.slice A4 sd.length cap4) := cell_h (hI.out.inn _ _ HQB6.out) 7 rfl
        have HL1 : Hid (∀ W, Below wr.heap.size wr W → W.cell? ⟨g, L.length * 5 + 2, none⟩ = some (.bool am2) ∧ W.cell? ⟨g, L.length * 5 + 3, none⟩ = some (.int .i64 ay2) ∧ W.cell? ⟨g, L.length * 5 + 4, none⟩ = some (.int .i64 an2)) := fun W hW => by
          have kb := hkb.keep hW
          have r2 := kb.cell L.length 2 (by simp) (by omega)
          have r3 := kb.cell L.length 3 (by simp) (by omega)
          have r4 := kb.cell L.length 4 (by simp) (by omega)
          rw [hgp] at r2 r3 r4
          exact ⟨r2, r3, r4⟩
        have hL60 : L.length ≤ 60 := by have : L.length ≤ (ms.take k).length := hpl; omega
        have HGP := Lib.hid hgp
        clear hkb hre hgp hpl
        go_wp2_with fail
        refine HAM.out.mono ?_
        rintro e w7 ⟨rfl, hb⟩
        clear a0 a1 a2 a3 a4 a5 a6 a7 c0
        have HPS : Hid (perStep (answerF o purp sd) (L, ⟨df, du, ⟨am2, ay2, an2⟩⟩) m = if eqA (answerF o purp sd m) ⟨am2, ay2, an2⟩ = true then (L, ⟨df, du, ⟨am2, ay2, an2⟩⟩) else (L ++ [⟨df, m, ⟨am2, ay2, an2⟩⟩], ⟨m, 4321440, answerF o purp sd m⟩)) := rfl
        generalize answerF o purp sd m = ax at *
        obtain ⟨bm, bY, bn⟩ := ax
        rw [show ansV ⟨bm, bY, bn⟩ = .agg #[.bool bm, .int .i64 bY, .int .i64 bn] from rfl]
        obtain ⟨H8, le8, hab, hI8⟩ := (hI.out.below hb).put (.cells #[.bool bm, .int .i64 bY, .int .i64 bn] 37)
        have HLE8 := Lib.hid le8
        have HAB := Lib.hid hab
        have HI8 := Lib.hid hI8
        have HL8 := Lib.hid (HL1.out _ (hb.alloc hb.size (.cells #[.bool bm, .int .i64 bY, .int .i64 bn] 37)))
        clear hb HAM hI HL1 le8 hab hI8
        go_upto_region 12 with (fail)
        generalize w7.alloc (.cells #[.bool bm, .int .i64 bY, .int .i64 bn] 37) = W8 at *
        generalize w7.heap.size = ab at *
        have y0 : W8.cell? ⟨ab, 0, none⟩ = some (.bool bm) := cell_h (HI8.out.inn _ _ HAB.out) 0 rfl
        have y1 : W8.cell? ⟨ab, 1, none⟩ = some (.int .i64 bY) := cell_h (HI8.out.inn _ _ HAB.out) 1 rfl
        have y2 : W8.cell? ⟨ab, 2, none⟩ = some (.int .i64 bn) := cell_h (HI8.out.inn _ _ HAB.out) 2 rfl
        obtain ⟨x2, x3, x4⟩ := HL8.out
        by_cases heq : eqA ⟨bm, bY, bn⟩ ⟨am2, ay2, an2⟩ = true
        · have HS2 : Hid (IG 61 5 fPer H6 ib (.slice (some ⟨g, 0, none⟩) (L.length + 1) capg) (s1.1 ++ [s1.2]) w W8) := by
            show IG _ _ _ _ _ _ _ _ _
            rw [HSN.out, HPS.out, if_pos heq]
            exact HI8.out.less HLE8.out
          have e1 := eqA_iff.1 heq
          injection e1 with e2 e3 e4
          subst e2 e3 e4
          clear heq HPS HSN HI8 HL8 HAB hlen
          go_quiet (fail)
          have HS3 := Lib.hid (fun n => HS2.out.below (below_drewN (Below.refl _ W8) n))
          go_wp2_with fail
          go_roundw
          case rel => exact ⟨k + 1, _, by omega, by go_num, rfl, by rw [← HS1.out]; exact HS3.out _⟩
          case measure => simp [intOf]; omega
        · have hnq : ¬ (bm = am2 ∧ bY = ay2 ∧ bn = an2) := fun h => heq (eqA_iff.2 (by rw [h.1, h.2.1, h.2.2]))
          have HPS2 := Lib.hid (HPS.out.trans (if_neg heq))
          clear heq HPS
          by_cases c1 : bm = am2
          · subst c1
            by_cases c2 : bY = ay2
            · subst c2
              have c3 : (bn == an2) = false := by
                rw [beq_eq_false_iff_ne]
                exact fun h => hnq ⟨rfl, rfl, h⟩
              clear hnq
              go_quiet (fail)
              have HI9 := Lib.hid (fun n => HI8.out.below (below_drewN (Below.refl _ W8) n))
              clear HL8 HI8 y0 y1 y2 x2 x3 x4 c3
              go_upto_region 13 with (fail)
              generalize hW9 : World.drewN W8 _ = W9
              have HI10 : Hid (IG 61 5 fPer H8 ib (.slice (some ⟨g, 0, none⟩) (L.length + 1) capg) (L ++ [⟨df, du, ⟨bm, bY, an2⟩⟩]) w W9) := by
                show IG _ _ _ _ _ _ _ _ _
                rw [← hW9]
                exact HI9.out _
              clear hW9 HI9
              obtain ⟨u1, u2, u3⟩ := HI10.out.upd (by simp) (p := L.length) (by simp) (j := 1) (by omega) ⟨df, m, ⟨bm, bY, an2⟩⟩ (x := .int .i64 m) rfl (fun j hj hj1 => by
                rw [HGP.out]
                rcases j with _ | _ | _ | _ | j
                · rfl
                · exact absurd rfl hj1
                · rfl
                · rfl
                · rfl)
              rw [HGP.out] at u1
              simp only [fPer] at u1
              have hset : (L ++ [(⟨df, du, ⟨bm, bY, an2⟩⟩ : PerD)]).set L.length ⟨df, m, ⟨bm, bY, an2⟩⟩ = L ++ [⟨df, m, ⟨bm, bY, an2⟩⟩] := by simp
              rw [hset] at u3
              have HI11 := Lib.hid u3
              clear u3 hset HI10 hlen HGP
              go_upto_region 14 with (fail)
              clear u1 u2
              generalize W9.setCell ⟨g, L.length * 5 + 1, none⟩ (.int .i64 m) = W10 at *
              have y0 : W10.cell? ⟨ab, 0, none⟩ = some (.bool bm) := cell_h (HI11.out.inn _ _ HAB.out) 0 rfl
              have y1 : W10.cell? ⟨ab, 1, none⟩ = some (.int .i64 bY) := cell_h (HI11.out.inn _ _ HAB.out) 1 rfl
              have y2 : W10.cell? ⟨ab, 2, none⟩ = some (.int .i64 bn) := cell_h (HI11.out.inn _ _ HAB.out) 2 rfl
              have HRow := Lib.hid HI11.out.row
              have HST := Lib.hid (fun v' W' o g1 at1 => HI11.out.app (v' := v') (W' := W') (ds' := (L ++ [⟨df, m, ⟨bm, bY, an2⟩⟩]) ++ [⟨m, 4321440, ⟨bm, bY, bn⟩⟩]) o g1 at1)
              have hB9 := HI11.out.le
              obtain ⟨ds2, hds⟩ : ∃ l, l = L ++ [(⟨df, m, ⟨bm, bY, an2⟩⟩ : PerD)] := ⟨_, rfl⟩
              have hpl2 : ds2.length ≤ 4294967296 := by rw [hds]; simp; omega
              obtain ⟨v9, hv9⟩ : ∃ v9 : Value, v9 = .slice (some ⟨g, 0, none⟩) (L.length + 1) capg := ⟨_, rfl⟩
              rw [← hds] at HRow HST
              rw [← hv9] at HRow HST ⊢
              have HDS := Lib.hid hds
              clear HI11 hv9 hds
              go_wp2_with (at_builtin; refine wpList_app_at rfl _ _ 55 rfl ib 61 i0 (.agg #[.int .i64 0, .int .i64 0, .bool false, .int .i64 0, .int .i64 0]) 5 40 Tryz.underlying55 hi0 hz0 hz1 hz2 rfl (by decide) fPer _ ds2 rfl HRow.out ⟨m, 4321440, ⟨bm, bY, bn⟩⟩ #[.int .i64 m, .int .i64 4321440, .bool bm, .int .i64 bY, .int .i64 bn] 61 rfl rfl (by simp [Value.oneCell']) hpl2 (by omega) hB9 ?_; intro v1 WM o1 g1 b1 at1; have HI12 := Lib.hid (HST.out _ _ o1 g1 at1); clear o1 g1 b1 at1 HST HRow)
              have HI13 : Hid (IG 61 5 fPer H6 ib v1 (s1.1 ++ [s1.2]) w WM) := by
                have h := HI12.out.less HLE8.out
                show IG _ _ _ _ _ _ _ _ _
                rw [HSN.out, HPS2.out]
                rw [HDS.out] at h
                exact h
              clear HI12 HSN HPS2 HDS y0 y1 y2
              go_roundw
              case rel => exact ⟨k + 1, _, by omega, by go_num, rfl, by rw [← HS1.out]; exact HI13⟩
              case measure => simp [intOf]; omega
            · have c3 : (bY == ay2) = false := by rw [beq_eq_false_iff_ne]; exact c2
              clear hnq c2
              go_quiet (fail)
              have HI9 := Lib.hid (fun n => HI8.out.below (below_drewN (Below.refl _ W8) n))
              clear HL8 HI8 y0 y1 y2 x2 x3 x4 c3
              go_upto_region 13 with (fail)
              generalize hW9 : World.drewN W8 _ = W9
              have HI10 : Hid (IG 61 5 fPer H8 ib (.slice (some ⟨g, 0, none⟩) (L.length + 1) capg) (L ++ [⟨df, du, ⟨bm, ay2, an2⟩⟩]) w W9) := by
                show IG _ _ _ _ _ _ _ _ _
                rw [← hW9]
                exact HI9.out _
              clear hW9 HI9
              obtain ⟨u1, u2, u3⟩ := HI10.out.upd (by simp) (p := L.length) (by simp) (j := 1) (by omega) ⟨df, m, ⟨bm, ay2, an2⟩⟩ (x := .int .i64 m) rfl (fun j hj hj1 => by
                rw [HGP.out]
                rcases j with _ | _ | _ | _ | j
                · rfl
                · exact absurd rfl hj1
                · rfl
                · rfl
                · rfl)
              rw [HGP.out] at u1
              simp only [fPer] at u1
              have hset : (L ++ [(⟨df, du, ⟨bm, ay2, an2⟩⟩ : PerD)]).set L.length ⟨df, m, ⟨bm, ay2, an2⟩⟩ = L ++ [⟨df, m, ⟨bm, ay2, an2⟩⟩] := by simp
              rw [hset] at u3
              have HI11 := Lib.hid u3
              clear u3 hset HI10 hlen HGP
              go_upto_region 14 with (fail)
              clear u1 u2
              generalize W9.setCell ⟨g, L.length * 5 + 1, none⟩ (.int .i64 m) = W10 at *
              have y0 : W10.cell? ⟨ab, 0, none⟩ = some (.bool bm) := cell_h (HI11.out.inn _ _ HAB.out) 0 rfl
              have y1 : W10.cell? ⟨ab, 1, none⟩ = some (.int .i64 bY) := cell_h (HI11.out.inn _ _ HAB.out) 1 rfl
              have y2 : W10.cell? ⟨ab, 2, none⟩ = some (.int .i64 bn) := cell_h (HI11.out.inn _ _ HAB.out) 2 rfl
              have HRow := Lib.hid HI11.out.row
              have HST := Lib.hid (fun v' W' o g1 at1 => HI11.out.app (v' := v') (W' := W') (ds' := (L ++ [⟨df, m, ⟨bm, ay2, an2⟩⟩]) ++ [⟨m, 4321440, ⟨bm, bY, bn⟩⟩]) o g1 at1)
              have hB9 := HI11.out.le
              obtain ⟨ds2, hds⟩ : ∃ l, l = L ++ [(⟨df, m, ⟨bm, ay2, an2⟩⟩ : PerD)] := ⟨_, rfl⟩
              have hpl2 : ds2.length ≤ 4294967296 := by rw [hds]; simp; omega
              obtain ⟨v9, hv9⟩ : ∃ v9 : Value, v9 = .slice (some ⟨g, 0, none⟩) (L.length + 1) capg := ⟨_, rfl⟩
              rw [← hds] at HRow HST
              rw [← hv9] at HRow HST ⊢
              have HDS := Lib.hid hds
              clear HI11 hv9 hds
              go_wp2_with (at_builtin; refine wpList_app_at rfl _ _ 55 rfl ib 61 i0 (.agg #[.int .i64 0, .int .i64 0, .bool false, .int .i64 0, .int .i64 0]) 5 40 Tryz.underlying55 hi0 hz0 hz1 hz2 rfl (by decide) fPer _ ds2 rfl HRow.out ⟨m, 4321440, ⟨bm, bY, bn⟩⟩ #[.int .i64 m, .int .i64 4321440, .bool bm, .int .i64 bY, .int .i64 bn] 61 rfl rfl (by simp [Value.oneCell']) hpl2 (by omega) hB9 ?_; intro v1 WM o1 g1 b1 at1; have HI12 := Lib.hid (HST.out _ _ o1 g1 at1); clear o1 g1 b1 at1 HST HRow)
              have HI13 : Hid (IG 61 5 fPer H6 ib v1 (s1.1 ++ [s1.2]) w WM) := by
                have h := HI12.out.less HLE8.out
                show IG _ _ _ _ _ _ _ _ _
                rw [HSN.out, HPS2.out]
                rw [HDS.out] at h
                exact h
              clear HI12 HSN HPS2 HDS y0 y1 y2
              go_roundw
              case rel => exact ⟨k + 1, _, by omega, by go_num, rfl, by rw [← HS1.out]; exact HI13⟩
              case measure => simp [intOf]; omega
          · have c3 : (bm == am2) = false := by rw [beq_eq_false_iff_ne]; exact c1
            clear hnq c1
            go_quiet (fail)
            have HI9 := Lib.hid (fun n => HI8.out.below (below_drewN (Below.refl _ W8) n))
            clear HL8 HI8 y0 y1 y2 x2 x3 x4 c3
            go_upto_region 13 with (fail)
            generalize hW9 : World.drewN W8 _ = W9
            have HI10 : Hid (IG 61 5 fPer H8 ib (.slice (some ⟨g, 0, none⟩) (L.length + 1) capg) (L ++ [⟨df, du, ⟨am2, ay2, an2⟩⟩]) w W9) := by
              show IG _ _ _ _ _ _ _ _ _
              rw [← hW9]
              exact HI9.out _
            clear hW9 HI9
            obtain ⟨u1, u2, u3⟩ := HI10.out.upd (by simp) (p := L.length) (by simp) (j := 1) (by omega) ⟨df, m, ⟨am2, ay2, an2⟩⟩ (x := .int .i64 m) rfl (fun j hj hj1 => by
              rw [HGP.out]
              rcases j with _ | _ | _ | _ | j
              · rfl
              · exact absurd rfl hj1
              · rfl
              · rfl
              · rfl)
            rw [HGP.out] at u1
            simp only [fPer] at u1
            have hset : (L ++ [(⟨df, du, ⟨am2, ay2, an2⟩⟩ : PerD)]).set L.length ⟨df, m, ⟨am2, ay2, an2⟩⟩ = L ++ [⟨df, m, ⟨am2, ay2, an2⟩⟩] := by simp
            rw [hset] at u3
            have HI11 := Lib.hid u3
            clear u3 hset HI10 hlen HGP
            go_upto_region 14 with (fail)
            clear u1 u2
            generalize W9.setCell ⟨g, L.length * 5 + 1, none⟩ (.int .i64 m) = W10 at *
            have y0 : W10.cell? ⟨ab, 0, none⟩ = some (.bool bm) := cell_h (HI11.out.inn _ _ HAB.out) 0 rfl
            have y1 : W10.cell? ⟨ab, 1, none⟩ = some (.int .i64 bY) := cell_h (HI11.out.inn _ _ HAB.out) 1 rfl
            have y2 : W10.cell? ⟨ab, 2, none⟩ = some (.int .i64 bn) := cell_h (HI11.out.inn _ _ HAB.out) 2 rfl
            have HRow := Lib.hid HI11.out.row
            have HST := Lib.hid (fun v' W' o g1 at1 => HI11.out.app (v' := v') (W' := W') (ds' := (L ++ [⟨df, m, ⟨am2, ay2, an2⟩⟩]) ++ [⟨m, 4321440, ⟨bm, bY, bn⟩⟩]) o g1 at1)
            have hB9 := HI11.out.le
            obtain ⟨ds2, hds⟩ : ∃ l, l = L ++ [(⟨df, m, ⟨am2, ay2, an2⟩⟩ : PerD)] := ⟨_, rfl⟩
            have hpl2 : ds2.length ≤ 4294967296 := by rw [hds]; simp; omega
            obtain ⟨v9, hv9⟩ : ∃ v9 : Value, v9 = .slice (some ⟨g, 0, none⟩) (L.length + 1) capg := ⟨_, rfl⟩
            rw [← hds] at HRow HST
            rw [← hv9] at HRow HST ⊢
            have HDS := Lib.hid hds
            clear HI11 hv9 hds
            go_wp2_with (at_builtin; refine wpList_app_at rfl _ _ 55 rfl ib 61 i0 (.agg #[.int .i64 0, .int .i64 0, .bool false, .int .i64 0, .int .i64 0]) 5 40 Tryz.underlying55 hi0 hz0 hz1 hz2 rfl (by decide) fPer _ ds2 rfl HRow.out ⟨m, 4321440, ⟨bm, bY, bn⟩⟩ #[.int .i64 m, .int .i64 4321440, .bool bm, .int .i64 bY, .int .i64 bn] 61 rfl rfl (by simp [Value.oneCell']) hpl2 (by omega) hB9 ?_; intro v1 WM o1 g1 b1 at1; have HI12 := Lib.hid (HST.out _ _ o1 g1 at1); clear o1 g1 b1 at1 HST HRow)
            have HI13 : Hid (IG 61 5 fPer H6 ib v1 (s1.1 ++ [s1.2]) w WM) := by
              have h := HI12.out.less HLE8.out
              show IG _ _ _ _ _ _ _ _ _
              rw [HSN.out, HPS2.out]
              rw [HDS.out] at h
              exact h
            clear HI12 HSN HPS2 HDS y0 y1 y2
            go_roundw
            case rel => exact ⟨k + 1, _, by omega, by go_num, rfl, by rw [← HS1.out]; exact HI13⟩
            case measure => simp [intOf]; omega
      · have hke : k = ms.length := by omega
        subst hke
        rw [List.take_length] at hI
        have HFF : Hid (PerPost w (perV (answerF o purp sd) ms 0) 0 (.returned (.tuple #[u17, .int .i64 0])) wr) := ⟨_, rfl, by unfold perV; rw [if_neg (by omega)]; exact hI.out.row.mono hI.out.hB, hI.out.bel⟩
        clear hI
        go_wp2_with fail
        go_ret2
        rw [HMM.out]
        exact HFF.out
end Go.Proofs.YtbhccicibmcafaaGreatDoor

/- A region that draws its order: reads, and one call that turns the world's state (the stream is asked). -/
namespace Go.Proofs.YtbhccicibmcafaaGreatDoor
set_option linter.unusedVariables false
open Go.RowKit
section
variable {P : Program} {l : List Oper} {n N : Nat} {a0 : Act} {J0 J1 : World → Prop} {K : Act → Prop} {Q : Exit → Act → World → Prop} {X : Nat → Value}
/-- What the call's value is known by. -/
def IS (l : List Oper) (n : Nat) (a0 : Act) (X : Nat → Value) (J0 J1 : World → Prop) (ψ : Value → World → Prop) (listed : Array Bool) (a : Act) (w : World) : Prop :=
  ∃ v, DInv l (n + 1) a0 (fun j => if j = n then v else X j) (fun W => J0 W ∨ J1 W) listed a w ∧ (listed.getD n false = false → J0 w) ∧ (listed.getD n false = true → J1 w ∧ ψ v w)
theorem wpAny_detS {ψ : Value → World → Prop} (hB : detB l (n + 1) N = true) (hN : a0.tmps.size = N) (hψ : ∀ v W W', Below W.heap.size W W' → ψ v W → ψ v W') (hm0 : ∀ W W', Below W.heap.size W W' → J0 W → J0 W') (hm1 : ∀ W W', Below W.heap.size W W' → J1 W → J1 W')
    (hX : ∀ i o, i < n → l[i]? = some o → DetAtE P l.toArray (fun W => J0 W ∨ J1 W) o (putAll ((l.take n).take i) 0 X a0) (X i))
    (hcall : ∀ o, l[n]? = some o → Region.wanted o (yielded l.toArray (putAll (l.take n) 0 X a0).tmps) = true ∧ ∀ W, J0 W → OpV P o (putAll (l.take n) 0 X a0).eval W fun v' W' => ψ v' W' ∧ J1 W')
    (hend : ∀ o v w', l[n]? = some o → J1 w' → ψ v w' → wpList P l.toArray Q (l.drop (n + 1)) ((putAll (l.take n) 0 X a0).put o.dst v) w') :
    ∀ (c : Nat) (listed : Array Bool) (a : Act) (w : World), IS l n a0 X J0 J1 ψ listed a w → ((List.range (n + 1)).countP fun j => !listed.getD j true) = c → wpAny P .any l.toArray Q (c + (l.length - (n + 1))) listed a w := by
  have hB' := hB
  simp only [detB, Bool.and_eq_true, decide_eq_true_eq] at hB'
  obtain ⟨⟨⟨⟨hn, hsink⟩, hchain⟩, hseq⟩, _⟩ := hB'
  have hln : n < l.length := by omega
  have hpre : ∀ i v, i ≤ n → putAll ((l.take (n + 1)).take i) 0 (fun j => if j = n then v else X j) a0 = putAll ((l.take n).take i) 0 X a0 := by
    intro i v hi
    have e : (l.take (n + 1)).take i = (l.take n).take i := by rw [List.take_take, List.take_take, Nat.min_eq_left (by omega), Nat.min_eq_left hi]
    rw [e]
    refine putAll_congr2 _ _ _ _ _ (fun k _ hk => ?_)
    have : k < n := by simp at hk; omega
    show (if k = n then v else X k) = X k
    rw [if_neg (by omega)]
  intro c
  induction c with
  | zero =>
    rintro listed a w ⟨v, h, hv0, hv⟩ hc
    have hall : ∀ i, i < n + 1 → listed.getD i false = true := fun i hi => by
      have := List.countP_eq_zero.1 hc i (List.mem_range.2 hi)
      have hsz := h.head.size
      have his : i < listed.size := by rw [hsz]; simp; omega
      simp [his] at this ⊢
      exact this
    have hvn := hv (hall n (by omega))
    have hfin := h.fin hB hN hall
    have he := allTrue_eq (n := n + 1) (m := l.length) (by rw [h.head.size]; simp) hall (fun t h1 h2 => h.head.tail t h1 (by simpa using h2))
    have ha : a = (putAll (l.take n) 0 X a0).put l[n].dst v := by
      rw [hfin, List.take_succ_eq_append_getElem hln, putAll_snoc]
      have h1 : putAll (l.take n) 0 (fun j => if j = n then v else X j) a0 = putAll (l.take n) 0 X a0 := by
        refine putAll_congr2 _ _ _ _ _ (fun k _ hk => ?_)
        have : k < n := by simp at hk; omega
        show (if k = n then v else X k) = X k
        rw [if_neg (by omega)]
      rw [h1]
      congr 1
      have : 0 + (l.take n).length = n := by simp; omega
      show (if 0 + (l.take n).length = n then v else _) = v
      rw [if_pos this]
    have hW := hend l[n] v w (List.getElem?_eq_getElem hln) hvn.1 hvn.2
    rw [← ha] at hW
    have := wpAny_of_seq (P := P) (ops := l.toArray) (md := .any) (Q' := Q) (l.drop (n + 1)) (n + 1) listed a w (fun j => by simp [List.getElem?_drop]) (by rw [List.length_drop, he]; exact hseq) hW
    rw [List.length_drop] at this
    rw [Nat.zero_add]
    exact this
  | succ c ih =>
    rintro listed a w ⟨v, h, hv0, hv⟩ hc
    have hex : ∃ i, i < n + 1 ∧ listed.getD i true = false := by
      have : 0 < (List.range (n + 1)).countP fun j => !listed.getD j true := by omega
      obtain ⟨i, hi, hl⟩ := List.countP_pos_iff.1 this
      exact ⟨i, List.mem_range.1 hi, by simpa using hl⟩
    have hne : Region.ready .any l.toArray listed ≠ [] := by
      have : ∀ m i, i < n + 1 → i ≤ m → listed.getD i true = false → ∃ k, k ∈ Region.ready .any l.toArray listed := by
        intro m
        induction m with
        | zero =>
          intro i hi hm hl
          obtain rfl : i = 0 := by omega
          obtain ⟨o, d, ho, _, _, _, _, _, haft, _⟩ := detB_at hB hi
          refine ⟨0, mem_ready.2 ⟨hl, o, by simpa using ho, fun e he hb => ?_⟩⟩
          have := haft e he hb
          omega
        | succ m ihm =>
          intro i hi hm hl
          obtain ⟨o, d, ho, _, _, _, _, _, haft, _⟩ := detB_at hB hi
          by_cases hd : ∀ e ∈ o.after, Region.binds .any e = true → listed.getD e.on false = true
          · exact ⟨i, mem_ready.2 ⟨hl, o, by simpa using ho, hd⟩⟩
          · obtain ⟨e, hd⟩ := Classical.not_forall.1 hd
            obtain ⟨he, hd⟩ := Classical.not_forall.1 hd
            obtain ⟨hb, hd⟩ := Classical.not_forall.1 hd
            have hlt := haft e he hb
            have hes : e.on < listed.size := by rw [h.head.size]; simp; omega
            exact ihm e.on (by omega) (by omega) (getD_in hes (by simpa using hd))
      obtain ⟨i, hi, hl⟩ := hex
      obtain ⟨k, hk⟩ := this i i hi (Nat.le_refl _) hl
      intro e
      rw [e] at hk
      cases hk
    rw [show c + 1 + (l.length - (n + 1)) = (c + (l.length - (n + 1))) + 1 from by omega]
    refine ⟨fun e => absurd e hne, fun i hi => ?_⟩
    obtain ⟨k, hk, hkl⟩ := hex
    have hin : i < n + 1 := by
      rcases Nat.lt_or_ge i (n + 1) with h' | h'
      · exact h'
      · exact absurd hi (tail_waits hsink hchain (by simpa using hn) h.head (n + 1 - k) k rfl hk hkl i h')
    have hl := (mem_ready.1 hi).1
    have hcnt := countP_set hin hl
    refine wpOp_mono (fun a' w' h' => ih (listed.setIfInBounds i true) a' w' h' (by omega)) ?_
    by_cases hi2 : i < n
    · refine DInv.go hB hN h hi hin (R := fun v' W' => v' = X i ∧ (J0 W' ∨ J1 W') ∧ Below w.heap.size w W') ?_ ?_
      · intro o ho
        rw [hpre i v (by omega)]
        have := hX i o hi2 ho
        refine ⟨fun hw => this.1 hw w h.world, fun hw => ⟨(this.2 hw).symm, h.world, Below.refl _ _⟩⟩
      · rintro o v' w' ho ⟨rfl, hJ, hb⟩
        refine ⟨hJ, fun hD => ⟨v, ?_, ?_, ?_⟩⟩
        · have e : (fun j => if j = i then X i else (fun j => if j = n then v else X j) j) = fun j => if j = n then v else X j := by
            funext j
            by_cases hj : j = i
            · subst hj; simp; omega
            · simp [hj]
          rw [e] at hD
          exact hD
        · intro hl2
          rw [getD_set_ne false (by omega)] at hl2
          exact hm0 _ _ hb (hv0 hl2)
        · intro hl2
          rw [getD_set_ne false (by omega)] at hl2
          exact ⟨hm1 _ _ hb (hv hl2).1, hψ _ _ _ hb (hv hl2).2⟩
    · have hie : i = n := by omega
      subst hie
      refine DInv.go hB hN h hi hin (R := fun v' W' => ψ v' W' ∧ J1 W') ?_ ?_
      · intro o ho
        have e : putAll ((l.take (i + 1)).take i) 0 (fun j => if j = i then v else X j) a0 = putAll (l.take i) 0 X a0 := by
          rw [hpre i v (Nat.le_refl _), List.take_take, Nat.min_self]
        rw [e]
        have := hcall o ho
        have his : i < listed.size := by rw [h.head.size]; simp; omega
        have hl0 : listed.getD i false = false := by
          simp [his] at hl ⊢
          exact hl
        refine ⟨fun hw => this.2 w (hv0 hl0), fun hw => ?_⟩
        rw [this.1] at hw; cases hw
      · rintro o v' w' ho ⟨h1, h2⟩
        have his : i < listed.size := by rw [h.head.size]; simp; omega
        refine ⟨Or.inr h2, fun hD => ⟨v', ?_, fun c => ?_, fun _ => ⟨h2, h1⟩⟩⟩
        rotate_left
        · simp [his] at c
        have e : (fun j => if j = i then v' else (fun j => if j = i then v else X j) j) = fun j => if j = i then v' else X j := by
          funext j
          by_cases hj : j = i <;> simp [hj]
        rw [e] at hD
        exact hD
/-- The rule: n operations, then (in the text's order) the call. -/
theorem wp_region_detS {id : Nat} {w : World} (n N : Nat) (J0 J1 : World → Prop) (ψ : Value → World → Prop) (hm : P.follows .mixedOrders = true) (hB : detB l (n + 1) N = true) (hN : a0.tmps.size = N) (hψ : ∀ v W W', Below W.heap.size W W' → ψ v W → ψ v W') (hm0 : ∀ W W', Below W.heap.size W W' → J0 W → J0 W') (hm1 : ∀ W W', Below W.heap.size W W' → J1 W → J1 W') (hJ : J0 w.drew)
    (o : Oper) (ho : l[n]? = some o) (hg : o.guard = none)
    (h : detSeqE P l.toArray (fun W => J0 W ∨ J1 W) (fun a => (∀ W, J0 W → OpV P o a.eval W fun v' W' => ψ v' W' ∧ J1 W') ∧ ∀ v W, J1 W → ψ v W → wpList P l.toArray Q (l.drop (n + 1)) (a.put o.dst v) W) (l.take n) a0) : (Code.region id l.toArray true).wp P Q a0 w := by
  refine wp_region_any hm ?_
  have hn : n + 1 < l.length := by
    simp only [detB, Bool.and_eq_true, decide_eq_true_eq] at hB
    exact hB.1.1.1.1
  obtain ⟨X, hK, hX⟩ := detSeqE_fn l.toArray (l.take n) 0 a0 h
  have h0 : IS l n a0 X J0 J1 ψ (Array.replicate l.toArray.size false) a0 w.drew :=
    ⟨undef, ⟨⟨by simp, fun j oj _ hl => (by rw [getD_replicate_false] at hl; cases hl), fun t _ ht => getD_in (by simpa using ht) (getD_replicate_false _ _)⟩, Or.inl hJ, rfl, rfl, fun _ _ => rfl, fun i s _ hl => by rw [getD_replicate_false] at hl; cases hl⟩, fun _ => hJ, fun hl => by rw [getD_replicate_false] at hl; cases hl⟩
  have hc : ((List.range (n + 1)).countP fun j => !(Array.replicate l.toArray.size false).getD j true) = n + 1 := by
    have : ((List.range (n + 1)).countP fun j => !(Array.replicate l.toArray.size false).getD j true) = (List.range (n + 1)).length := by
      rw [List.countP_eq_length]
      intro j hj
      have := List.mem_range.1 hj
      have h2 : j < l.length := by omega
      simp [h2]
    rw [this, List.length_range]
  have := wpAny_detS (Q := Q) (X := X) hB hN hψ hm0 hm1 (fun i o hi ho => by
    have := hX i o (by rw [List.getElem?_take, if_pos hi]; exact ho)
    rw [Nat.zero_add] at this
    exact this) (fun o' ho' => by
      rw [ho] at ho'
      injection ho' with e
      subst e
      exact ⟨by simp [Region.wanted, hg], hK.1⟩) (fun o' v w' ho' hj hv => by
      rw [ho] at ho'
      injection ho' with e
      subst e
      exact hK.2 v w' hj hv) (n + 1) _ _ _ h0 hc
  rw [show n + 1 + (l.length - (n + 1)) = l.toArray.size from by simp; omega] at this
  exact this
theorem detSeqS_op {ops : Array Oper} {o : Oper} {r : List Oper} {a : Act} (hg : o.guard = none) (v : Value) (h1 : ∀ W, (J0 W ∨ J1 W) → OpV P o a.eval W fun v' W' => v' = v ∧ W' = W) (h2 : detSeqE P ops (fun W => J0 W ∨ J1 W) K r (a.put o.dst v)) : detSeqE P ops (fun W => J0 W ∨ J1 W) K (o :: r) a := by
  refine detSeqE_op hg v (fun W hW => ?_) h2
  have h3 := h1 W hW
  unfold OpV at h3 ⊢
  split at h3
  · exact ⟨h3.1, by rw [h3.2]; exact hW, by rw [h3.2]; exact Below.refl _ _⟩
  · exact ⟨h3.1, by rw [h3.2]; exact hW, by rw [h3.2]; exact Below.refl _ _⟩
  · refine h3.mono ?_
    rintro e w' ⟨v', rfl, h4, h5⟩
    exact ⟨v', rfl, h4, by rw [h5]; exact hW, by rw [h5]; exact Below.refl _ _⟩
  · cases h3
end
end Go.Proofs.YtbhccicibmcafaaGreatDoor

/- As XConc, all operations of the region in any order (no operation waits for all others). -/
namespace Go.Proofs.YtbhccicibmcafaaGreatDoor.C0
set_option linter.unusedVariables false
open Go.RowKit
/-- The closed facts on a region: all its operations may run in any order. -/
def concB (l : List Oper) (n N : Nat) : Bool :=
  decide (n = l.length) && Region.seqB .any l.toArray 0 n (allTrue n l.length) &&
  ((List.range n).all fun i => match l[i]? with
    | some o => o.guard.isNone && (match o.dst with | some d => decide (d < N) && decide (writer l n d = some i) | none => false) &&
        (o.after.toList.all fun e => !Region.binds .any e || decide (e.on < i)) &&
        ((tmpsOf o).all fun s => match writer l n s with | some j => Region.waitsFor .any l.toArray i j | none => true)
    | none => false)

section
variable {P : Program} {l : List Oper} {n N : Nat} {a0 : Act} {φ : Nat → Value → World → Prop} {J : Nat → World → Prop} {E : World → World → Prop} {Q : Exit → Act → World → Prop}

theorem concB_at (h : concB l n N = true) {i : Nat} (hi : i < n) : ∃ o d, l[i]? = some o ∧ o.guard = none ∧ o.dst = some d ∧ d < N ∧ writer l n d = some i ∧ (∀ e ∈ o.after, Region.binds .any e = true → e.on < i) ∧ ∀ s ∈ tmpsOf o, ∀ j, writer l n s = some j → Region.waitsFor .any l.toArray i j = true := by
  simp only [concB, Bool.and_eq_true] at h
  have h1 := List.all_eq_true.1 h.2 i (List.mem_range.2 hi)
  cases ho : l[i]? with
  | none => rw [ho] at h1; cases h1
  | some o =>
    rw [ho] at h1
    simp only [Bool.and_eq_true] at h1
    obtain ⟨⟨⟨g1, g2⟩, g3⟩, g4⟩ := h1
    cases hd : o.dst with
    | none => rw [hd] at g2; cases g2
    | some d =>
      rw [hd] at g2
      simp only [Bool.and_eq_true, decide_eq_true_eq] at g2
      refine ⟨o, d, rfl, by simpa using g1, hd, g2.1, g2.2, ?_, ?_⟩
      · intro e he hb
        have := List.all_eq_true.1 g3 e (by simpa using he)
        simpa [hb] using this
      · intro s hs j hj
        have := List.all_eq_true.1 g4 s hs
        rw [hj] at this
        exact this

structure CInv (l : List Oper) (n : Nat) (a0 : Act) (φ : Nat → Value → World → Prop) (J : Nat → World → Prop) (k : Nat) (listed : Array Bool) (a : Act) (w : World) : Prop where
  head : HeadInv .any l.toArray n listed
  world : J k w
  defers : a.defers = a0.defers
  size : a.tmps.size = a0.tmps.size
  other : ∀ s, writer l n s = none → a.tmps.getD s undef = a0.tmps.getD s undef
  done : ∀ i s, i < n → listed.getD i false = true → dstAt l i = some s → φ i (a.tmps.getD s undef) w

theorem getD_put {a : Act} {d s : Nat} {v : Value} (hd : d < a.tmps.size) : (a.put (some d) v).tmps.getD s undef = if s = d then v else a.tmps.getD s undef := by
  simp only [Act.put, Array.getD_eq_getD_getElem?, Array.getElem?_setIfInBounds]
  by_cases e : d = s
  · subst e; simp [hd]
  · simp [e, Ne.symm e]
theorem writer_dst {s i : Nat} (h : writer l n s = some i) : i < n ∧ dstAt l i = some s := by
  have h1 := List.mem_of_find?_eq_some h
  have h2 := List.find?_some h
  exact ⟨List.mem_range.1 h1, by simpa using h2⟩

theorem writer_some {i s : Nat} (hi : i < n) (h : dstAt l i = some s) : writer l n s ≠ none := by
  intro e
  have := List.find?_eq_none.1 e i (List.mem_range.2 hi)
  simp [h] at this
theorem CInv.step (hB : concB l n N = true) (hN : a0.tmps.size = N)
    (hmono : ∀ i x w w', i < n → E w w' → φ i x w → φ i x w')
    (hstep : ∀ i o, i < n → l[i]? = some o → ∀ (a : Act) (w : World) (k : Nat), k < n → J k w → (∀ s ∈ tmpsOf o, known l n a0.tmps φ s (a.tmps.getD s undef) w) → OpV P o a.eval w fun v w' => φ i v w' ∧ J (k + 1) w' ∧ E w w')
    {k : Nat} (hk : k < n) {listed : Array Bool} {a : Act} {w : World} (h : CInv l n a0 φ J k listed a w) {i : Nat} (hr : i ∈ Region.ready .any l.toArray listed) (hi : i < n) :
    wpOp P l.toArray Q i (fun a' w' => CInv l n a0 φ J (k + 1) (listed.setIfInBounds i true) a' w') a w := by
  obtain ⟨o, d, ho, hg, hd, hdN, hw, haft, hdep⟩ := concB_at hB hi
  have ho' : l.toArray[i]? = some o := by simpa using ho
  have hwant : Region.wanted o (yielded l.toArray a.tmps) = true := by simp [Region.wanted, hg]
  unfold wpOp
  rw [ho']
  simp only [hwant, if_true]
  left
  refine OpV.wp (hstep i o hi ho a w k hk h.world ?_) ?_
  · intro s hs
    unfold known
    cases hws : writer l n s with
    | none => exact h.other s hws
    | some j =>
      obtain ⟨hj, hjd⟩ := writer_dst hws
      obtain ⟨_, oi, hoi, hall⟩ := mem_ready.1 hr
      obtain ⟨oj, hoj, e, he, hb, hon⟩ := Region.waitsFor_spec (hdep s hs j hws)
      have : oj = oi := Option.some.inj (hoj.symm.trans hoi)
      subst this
      have hl := hall e he hb
      rw [hon] at hl
      exact h.done j s hj hl hjd
  · rintro v w' ⟨h1, h2, h3⟩
    have hda : d < a.tmps.size := by rw [h.size, hN]; exact hdN
    rw [hd]
    refine ⟨h.head.set hr hi, h2, h.defers, by simp [Act.put, h.size], ?_, ?_⟩
    · intro s hs
      rw [getD_put hda]
      have : s ≠ d := by rintro rfl; rw [hw] at hs; cases hs
      rw [if_neg this]
      exact h.other s hs
    · intro j s hj hl hjs
      rw [getD_put hda]
      by_cases e : s = d
      · subst e
        rw [if_pos rfl]
        have hw2 : writer l n s = some j := by
          obtain ⟨oj, dj, hoj, _, hdj, _, hwj, _⟩ := concB_at hB hj
          have : dj = s := by simp only [dstAt, hoj, Option.bind_some, hdj] at hjs; injection hjs
          rw [← this]; exact hwj
        rw [hw] at hw2
        injection hw2 with e2
        subst e2
        exact h1
      · rw [if_neg e]
        have hne : i ≠ j := by
          rintro rfl
          simp only [dstAt, ho, Option.bind_some, hd] at hjs
          injection hjs with e3
          exact e e3.symm
        rw [getD_set_ne false hne] at hl
        exact hmono j _ w w' hj h3 (h.done j s hj hl hjs)

theorem putAll_size (l : List Oper) (i : Nat) (x : Nat → Value) (a : Act) : (putAll l i x a).tmps.size = a.tmps.size ∧ (putAll l i x a).defers = a.defers := by
  induction l generalizing i a with
  | nil => exact ⟨rfl, rfl⟩
  | cons o l ih =>
    rw [putAll, (ih _ _).1, (ih _ _).2]
    cases o.dst <;> simp [Act.put]
theorem putAll_get (l : List Oper) (i : Nat) (x : Nat → Value) (a : Act) (s : Nat) (v : Value) (hs : s < a.tmps.size) (hv : ∀ j, dstAt l j = some s → x (i + j) = v) (hn : (∀ j, dstAt l j ≠ some s) → a.tmps.getD s undef = v) : (putAll l i x a).tmps.getD s undef = v := by
  induction l generalizing i a with
  | nil => exact hn (fun j => by simp [dstAt])
  | cons o l ih =>
    rw [putAll]
    have hsz : (a.put o.dst (x i)).tmps.size = a.tmps.size := by cases o.dst <;> simp [Act.put]
    refine ih (i + 1) _ (by rw [hsz]; exact hs) (fun j hj => ?_) (fun hno => ?_)
    · rw [show i + 1 + j = i + (j + 1) from by omega]
      exact hv (j + 1) (by simpa [dstAt] using hj)
    · cases hd : o.dst with
      | none =>
        exact hn (fun j => by
          cases j with
          | zero => simp [dstAt, hd]
          | succ j => simpa [dstAt] using hno j)
      | some d =>
        by_cases e : d = s
        · subst e
          rw [getD_put hs, if_pos rfl]
          exact hv 0 (by simp [dstAt, hd])
        · have : (a.put (some d) (x i)).tmps.getD s undef = a.tmps.getD s undef := by
            simp only [Act.put, Array.getD_eq_getD_getElem?, Array.getElem?_setIfInBounds]
            simp [e]
          rw [this]
          exact hn (fun j => by
            cases j with
            | zero => simp [dstAt, hd, e]
            | succ j => simpa [dstAt] using hno j)
theorem CInv.fin (hB : concB l n N = true) (hN : a0.tmps.size = N) {k : Nat} {listed : Array Bool} {a : Act} {w : World} (h : CInv l n a0 φ J k listed a w) (hall : ∀ i, i < n → listed.getD i false = true) :
    ∃ x : Nat → Value, (∀ i, i < n → φ i (x i) w) ∧ a = putAll (l.take n) 0 x a0 := by
  refine ⟨fun i => a.tmps.getD ((dstAt l i).getD 0) undef, fun i hi => ?_, ?_⟩
  · obtain ⟨o, d, ho, _, hd, _⟩ := concB_at hB hi
    have hds : dstAt l i = some d := by simp [dstAt, ho, hd]
    show φ i (a.tmps.getD ((dstAt l i).getD 0) undef) w
    rw [hds]
    exact h.done i d hi (hall i hi) hds
  · have hs := putAll_size (l.take n) 0 (fun i => a.tmps.getD ((dstAt l i).getD 0) undef) a0
    have htm : a.tmps = (putAll (l.take n) 0 (fun i => a.tmps.getD ((dstAt l i).getD 0) undef) a0).tmps := by
      apply Array.ext
      · rw [hs.1, h.size]
      · intro s h1 h2
        have hdt : ∀ j, dstAt (l.take n) j = some s → j < n ∧ dstAt l j = some s := fun j hj => by
          unfold dstAt at hj ⊢
          rw [List.getElem?_take] at hj
          split at hj
          · exact ⟨‹_›, hj⟩
          · cases hj
        have := putAll_get (l.take n) 0 (fun i => a.tmps.getD ((dstAt l i).getD 0) undef) a0 s (a.tmps.getD s undef) (by rw [← h.size]; exact h1)
          (fun j hj => by rw [Nat.zero_add, (hdt j hj).2]; rfl)
          (fun hno => by
            cases hw : writer l n s with
            | none => exact (h.other s hw).symm
            | some j =>
              obtain ⟨hj, hjd⟩ := writer_dst hw
              refine absurd ?_ (hno j)
              unfold dstAt at hjd ⊢
              rw [List.getElem?_take, if_pos hj]
              exact hjd)
        have e1 : a.tmps.getD s undef = a.tmps[s] := by simp [h1]
        rw [e1] at this
        rw [← this]
        generalize putAll (l.take n) 0 _ a0 = p at h2
        simp [h2]
    obtain ⟨tm, df⟩ := a
    have e2 := h.defers
    simp only at htm e2
    generalize hp : putAll (l.take n) 0 (fun i => tm.getD ((dstAt l i).getD 0) undef) a0 = p at htm hs ⊢
    obtain ⟨tm', df'⟩ := p
    simp only at htm hs
    rw [htm, e2, hs.2]

theorem allTrue_eq {listed : Array Bool} {m : Nat} (hs : listed.size = m) (h1 : ∀ i, i < n → listed.getD i false = true) (h2 : ∀ t, n ≤ t → t < m → listed.getD t true = false) : listed = allTrue n m := by
  apply Array.ext
  · simp [allTrue, hs]
  · intro i hi hj
    have him : i < m := by omega
    simp only [allTrue, List.getElem_toArray, List.getElem_map, List.getElem_range]
    by_cases h : i < n
    · have := h1 i h
      simp [hi] at this
      simp [this, h]
    · have := h2 i (by omega) him
      simp [hi] at this
      simp [this, h]

theorem countP_set {listed : Array Bool} {i n : Nat} (hi : i < n) (hl : listed.getD i true = false) : ((List.range n).countP fun j => !listed.getD j true) = ((List.range n).countP fun j => !(listed.setIfInBounds i true).getD j true) + 1 := by
  have his : i < listed.size := by
    rcases Nat.lt_or_ge i listed.size with h | h
    · exact h
    · simp [Array.getElem?_eq_none h] at hl
  induction n with
  | zero => omega
  | succ n ih =>
    rw [List.range_succ, List.countP_append, List.countP_append]
    by_cases e : i = n
    · subst e
      have e1 : ((List.range i).countP fun j => !listed.getD j true) = ((List.range i).countP fun j => !(listed.setIfInBounds i true).getD j true) := by
        apply List.countP_congr
        intro j hj
        rw [getD_set_ne true (by have := List.mem_range.1 hj; omega)]
      rw [e1]
      have e2 : (listed.setIfInBounds i true).getD i true = true := by simp [his]
      rw [List.countP_singleton, List.countP_singleton, hl, e2]
      rfl
    · rw [ih (by omega)]
      have e2 : (listed.setIfInBounds i true).getD n true = listed.getD n true := getD_set_ne true e
      simp only [List.countP_singleton, e2]
      omega
theorem wpAny_conc (hB : concB l n N = true) (hN : a0.tmps.size = N)
    (hmono : ∀ i x w w', i < n → E w w' → φ i x w → φ i x w')
    (hstep : ∀ i o, i < n → l[i]? = some o → ∀ (a : Act) (w : World) (k : Nat), k < n → J k w → (∀ s ∈ tmpsOf o, known l n a0.tmps φ s (a.tmps.getD s undef) w) → OpV P o a.eval w fun v w' => φ i v w' ∧ J (k + 1) w' ∧ E w w')
    (hend : ∀ (x : Nat → Value) (w' : World), J n w' → (∀ i, i < n → φ i (x i) w') → wpList P l.toArray Q (l.drop n) (putAll (l.take n) 0 x a0) w') :
    ∀ (c : Nat) (listed : Array Bool) (a : Act) (w : World), c ≤ n → CInv l n a0 φ J (n - c) listed a w → ((List.range n).countP fun j => !listed.getD j true) = c → wpAny P .any l.toArray Q (c + (l.length - n)) listed a w := by
  have hB' := hB
  simp only [concB, Bool.and_eq_true, decide_eq_true_eq] at hB'
  obtain ⟨⟨hn, hseq⟩, _⟩ := hB'
  intro c
  induction c with
  | zero =>
    intro listed a w hcn h hc
    have hall : ∀ i, i < n → listed.getD i false = true := fun i hi => by
      have := List.countP_eq_zero.1 hc i (List.mem_range.2 hi)
      have hsz := h.head.size
      have his : i < listed.size := by rw [hsz]; simp; omega
      simp [his] at this ⊢
      exact this
    obtain ⟨x, hx, rfl⟩ := h.fin hB hN hall
    have he := allTrue_eq (n := n) (m := l.length) (by rw [h.head.size]; simp) hall (fun t h1 h2 => h.head.tail t h1 (by simpa using h2))
    have := wpAny_of_seq (P := P) (ops := l.toArray) (md := .any) (Q' := Q) (l.drop n) n listed (putAll (l.take n) 0 x a0) w (fun j => by simp [List.getElem?_drop]) (by rw [List.length_drop, he, hn, Nat.sub_self]; rw [hn] at hseq; exact hseq) (hend x w h.world hx)
    rw [List.length_drop] at this
    rw [Nat.zero_add]
    exact this
  | succ c ih =>
    intro listed a w hcn h hc
    have hex : ∃ i, i < n ∧ listed.getD i true = false := by
      have : 0 < (List.range n).countP fun j => !listed.getD j true := by omega
      obtain ⟨i, hi, hl⟩ := List.countP_pos_iff.1 this
      exact ⟨i, List.mem_range.1 hi, by simpa using hl⟩
    have hne : Region.ready .any l.toArray listed ≠ [] := by
      have : ∀ m i, i < n → i ≤ m → listed.getD i true = false → ∃ k, k ∈ Region.ready .any l.toArray listed := by
        intro m
        induction m with
        | zero =>
          intro i hi hm hl
          obtain rfl : i = 0 := by omega
          obtain ⟨o, d, ho, _, _, _, _, haft, _⟩ := concB_at hB hi
          refine ⟨0, mem_ready.2 ⟨hl, o, by simpa using ho, fun e he hb => ?_⟩⟩
          have := haft e he hb
          omega
        | succ m ihm =>
          intro i hi hm hl
          obtain ⟨o, d, ho, _, _, _, _, haft, _⟩ := concB_at hB hi
          by_cases hd : ∀ e ∈ o.after, Region.binds .any e = true → listed.getD e.on false = true
          · exact ⟨i, mem_ready.2 ⟨hl, o, by simpa using ho, hd⟩⟩
          · obtain ⟨e, hd⟩ := Classical.not_forall.1 hd
            obtain ⟨he, hd⟩ := Classical.not_forall.1 hd
            obtain ⟨hb, hd⟩ := Classical.not_forall.1 hd
            have hlt := haft e he hb
            have hes : e.on < listed.size := by rw [h.head.size]; simp; omega
            exact ihm e.on (by omega) (by omega) (getD_in hes (by simpa using hd))
      obtain ⟨i, hi, hl⟩ := hex
      obtain ⟨k, hk⟩ := this i i hi (Nat.le_refl _) hl
      intro e
      rw [e] at hk
      cases hk
    rw [show c + 1 + (l.length - n) = (c + (l.length - n)) + 1 from by omega]
    refine ⟨fun e => absurd e hne, fun i hi => ?_⟩
    obtain ⟨k, hk, hkl⟩ := hex
    have hin : i < n := by
      rcases Nat.lt_or_ge i n with h' | h'
      · exact h'
      · obtain ⟨_, oi, hoi, _⟩ := mem_ready.1 hi
        have := (Array.getElem?_eq_some_iff.1 hoi).1
        simp at this
        omega
    refine wpOp_mono (fun a' w' h' => ih _ _ _ (by omega) (by rw [show n - (c + 1) + 1 = n - c from by omega] at h'; exact h') ?_) (CInv.step hB hN hmono hstep (by omega) h hi hin)
    have hl := (mem_ready.1 hi).1
    have := countP_set hin hl
    omega

/-- A region that draws its order, by what each operation leaves. -/
theorem wp_region_conc {id : Nat} {w : World} (n N : Nat) (φ : Nat → Value → World → Prop) (J : Nat → World → Prop) (E : World → World → Prop) (hm : P.follows .mixedOrders = true) (hB : concB l n N = true) (hN : a0.tmps.size = N)
    (hJ : J 0 w.drew) (hmono : ∀ i x w w', i < n → E w w' → φ i x w → φ i x w')
    (hstep : ∀ i o, i < n → l[i]? = some o → ∀ (a : Act) (w : World) (k : Nat), k < n → J k w → (∀ s ∈ tmpsOf o, known l n a0.tmps φ s (a.tmps.getD s undef) w) → OpV P o a.eval w fun v w' => φ i v w' ∧ J (k + 1) w' ∧ E w w')
    (hend : ∀ (x : Nat → Value) (w' : World), J n w' → (∀ i, i < n → φ i (x i) w') → wpList P l.toArray Q (l.drop n) (putAll (l.take n) 0 x a0) w') :
    (Code.region id l.toArray true).wp P Q a0 w := by
  refine wp_region_any hm ?_
  have hn : n = l.length := by
    simp only [concB, Bool.and_eq_true, decide_eq_true_eq] at hB
    exact hB.1.1
  have h0 : CInv l n a0 φ J (n - n) (Array.replicate l.toArray.size false) a0 w.drew := by
    refine ⟨⟨by simp, fun j oj _ hl => (by rw [getD_replicate_false] at hl; cases hl), fun t _ ht => getD_in (by simpa using ht) (getD_replicate_false _ _)⟩, by rw [Nat.sub_self]; exact hJ, rfl, rfl, fun _ _ => rfl, fun i s _ hl => by rw [getD_replicate_false] at hl; cases hl⟩
  have hc : ((List.range n).countP fun j => !(Array.replicate l.toArray.size false).getD j true) = n := by
    have : ((List.range n).countP fun j => !(Array.replicate l.toArray.size false).getD j true) = (List.range n).length := by
      rw [List.countP_eq_length]
      intro j hj
      have := List.mem_range.1 hj
      have h2 : j < l.length := by omega
      simp [h2]
    rw [this, List.length_range]
  have := wpAny_conc (Q := Q) hB hN hmono hstep hend n _ _ _ (Nat.le_refl _) h0 hc
  rw [show n + (l.length - n) = l.toArray.size from by simp; omega] at this
  exact this
end
end Go.Proofs.YtbhccicibmcafaaGreatDoor.C0

/- The periods are the answers of all moments: plain law. -/
namespace Go.Proofs.YtbhccicibmcafaaGreatDoor
set_option linter.unusedVariables false
open Go.RowKit
def atF (x : List PerD) (i : Nat) : Int := if i = 0 then 0 else (x.getD (i - 1) ⟨0, 0, ⟨false, 0, 0⟩⟩).upto_
theorem que_any {ps : List PurD} {purp region : ByteArray} {ch a b : Int} (h : queErr ps purp region ch a = 0) (hb : 0 ≤ b ∧ b ≤ 4321439) : queErr ps purp region ch b = 0 := by
  unfold queErr at h ⊢
  split at h
  · cases h
  · rename_i c1
    rw [if_neg c1]
    split at h
    · cases h
    · rename_i c2
      rw [if_neg c2]
      split at h
      · cases h
      · rename_i c3
        rw [if_neg c3, if_neg (by omega)]
theorem allErr_any {ps : List PurD} {ss : List StD} {kind : Int} {text purp region : ByteArray} {ch a b : Int} (h : allErr ps ss [⟨kind, text⟩] 1 purp region ch a = 0) (hb : 0 ≤ b ∧ b ≤ 4321439) : allErr ps ss [⟨kind, text⟩] 1 purp region ch b = 0 := by
  obtain ⟨r1, r2, r3⟩ := all_right h
  unfold allErr
  rw [r1, r2, que_any r3 hb]
  rfl
theorem may_ask {ps : List PurD} {ss : List StD} {kind : Int} {text purp region : ByteArray} {ch a : Int} (h : allErr ps ss [⟨kind, text⟩] 1 purp region ch a = 0) : mayA ps ss kind text purp region ch a = answerF (termF ps purp region ch) purp (saidF ss kind text ch) a := by
  unfold mayA
  rw [if_neg (by simpa using h)]
  rfl
/-- What the law asks of the i-th period. -/
structure PerOk (ps : List PurD) (ss : List StD) (kind : Int) (text purp region : ByteArray) (ch : Int) (x : List PerD) (i : Nat) (v : PerD) : Prop where
  from_ : v.from_ = atF x i
  bd : 0 ≤ v.from_ ∧ v.from_ < v.upto_ ∧ v.upto_ ≤ 4321440
  last : i + 1 = x.length → v.upto_ = 4321440
  differ : 0 < i → v.a ≠ (x.getD (i - 1) v).a
  all : ∀ m, v.from_ ≤ m → m < v.upto_ → mayA ps ss kind text purp region ch m = v.a ∧ allErr ps ss [⟨kind, text⟩] 1 purp region ch m = 0 ∧
    nextV (answerF (termF ps purp region ch) purp (saidF ss kind text ch)) (momF ((termF ps purp region ch).getD zeroTe) purp (saidF ss kind text ch)) m 0 = v.upto_
def perX (ps : List PurD) (ss : List StD) (kind : Int) (text purp region : ByteArray) (ch : Int) : List PerD := perF (answerF (termF ps purp region ch) purp (saidF ss kind text ch)) (momF ((termF ps purp region ch).getD zeroTe) purp (saidF ss kind text ch))
theorem per_ok {ps : List PurD} {ss : List StD} {kind : Int} {text purp region : ByteArray} {ch : Int} (h : allErr ps ss [⟨kind, text⟩] 1 purp region ch 0 = 0) (i : Nat) (hi : i < (perX ps ss kind text purp region ch).length) :
    PerOk ps ss kind text purp region ch (perX ps ss kind text purp region ch) i (perX ps ss kind text purp region ch)[i] := by
  obtain ⟨r1, r2, r3⟩ := all_right h
  have hpol := say_pol r1
  have hb := mom_bd (t := (termF ps purp region ch).getD zeroTe) (purp := purp) (said_bd2 r1 kind text ch) (by
      cases e : termF ps purp region ch with
      | none => exact ⟨by decide, by decide⟩
      | some t => exact term_tb hpol t e)
  have hst : ∀ x, 0 ≤ x → x + 1 < 4321440 → x + 1 ∉ momF ((termF ps purp region ch).getD zeroTe) purp (saidF ss kind text ch) → answerF (termF ps purp region ch) purp (saidF ss kind text ch) (x + 1) = answerF (termF ps purp region ch) purp (saidF ss kind text ch) x := by
    intro x h0 h1 h2
    refine answer_step _ _ _ (saidF_at ss kind text ch) x (fun c => h2 ?_)
    rw [momF_mem]
    exact ⟨c, h1⟩
  have hasc := momF_asc ((termF ps purp region ch).getD zeroTe) purp (saidF ss kind text ch)
  have ha : ∀ m, 0 ≤ m ∧ m ≤ 4321439 → mayA ps ss kind text purp region ch m = answerF (termF ps purp region ch) purp (saidF ss kind text ch) m := fun m hm => may_ask (allErr_any h hm)
  have hal : ∀ m, 0 ≤ m ∧ m ≤ 4321439 → allErr ps ss [⟨kind, text⟩] 1 purp region ch m = 0 := fun m hm => allErr_any h hm
  unfold perX at hi ⊢
  generalize hans : answerF (termF ps purp region ch) purp (saidF ss kind text ch) = ans at *
  generalize hms : momF ((termF ps purp region ch).getD zeroTe) purp (saidF ss kind text ch) = ms at *
  have hb' : ∀ m ∈ ms, 0 ≤ m ∧ m < 4321440 := fun m hm => by have := hb m hm; omega
  have gd : ∀ j (hj : j < (perF ans ms).length) (d : PerD), (perF ans ms).getD j d = (perF ans ms)[j] := fun j hj d => by rw [List.getD_eq_getElem?_getD, List.getElem?_eq_getElem hj]; rfl
  have hp := per_at (ans := ans) hasc hb' i hi
  have hf : 0 ≤ (perF ans ms)[i].from_ := by
    rw [hp.from_]
    by_cases c : i = 0
    · rw [if_pos c]; omega
    · rw [if_neg c, gd (i - 1) (by omega)]
      have hq := per_at (ans := ans) hasc hb' (i - 1) (by omega)
      rcases hq.next with hq | hq
      · have := hq.1
        omega
      · exact (hb' _ hq.2.1).1
  have hu : (perF ans ms)[i].upto_ ≤ 4321440 := by
    rcases hp.next with hq | hq
    · omega
    · have := (hb' _ hq.2.1).2
      omega
  have hc := per_const hst hp hf hu
  refine ⟨?_, ⟨hf, hp.lt, hu⟩, fun e => ?_, hp.differ, fun m h1 h2 => ?_⟩
  · rw [hp.from_]
    unfold atF
    by_cases c : i = 0
    · rw [if_pos c, if_pos c]
    · rw [if_neg c, if_neg c, gd (i - 1) (by omega), gd (i - 1) (by omega)]
  · rcases hp.next with hq | hq
    · exact hq.2
    · have := hq.1
      omega
  · refine ⟨by rw [ha m (by omega)]; exact hc m h1 h2, hal m (by omega), ?_⟩
    rw [hans, hms]
    unfold nextV
    rw [if_neg (by omega)]
    exact per_next hasc (fun m hm => (hb' m hm).2) hp hc m h1 h2
theorem perX_pos (ps : List PurD) (ss : List StD) (kind : Int) (text purp region : ByteArray) (ch : Int) : 0 < (perX ps ss kind text purp region ch).length := by unfold perX perF; simp
theorem perX_len {ps : List PurD} {ss : List StD} (kind : Int) (text purp region : ByteArray) (ch : Int) : (perX ps ss kind text purp region ch).length ≤ 3 * ss.length + 1 := by
  unfold perX perF
  have h1 := perS_len (answerF (termF ps purp region ch) purp (saidF ss kind text ch)) (momF ((termF ps purp region ch).getD zeroTe) purp (saidF ss kind text ch))
  have h2 := momF_len ((termF ps purp region ch).getD zeroTe) purp (saidF ss kind text ch)
  have h3 := said_len ss kind text ch
  simp
  omega
theorem perV_zero {ans : Int → AnsD} {ms : List Int} : perV ans ms 0 = perF ans ms := by unfold perV; rw [if_neg (by omega)]
theorem perV_bad {ans : Int → AnsD} {ms : List Int} {ae : Int} (h : ae ≠ 0) : perV ans ms ae = [] := by unfold perV; rw [if_pos h]
theorem atF_next (x : List PerD) {i : Nat} (hi : i < x.length) : atF x (i + 1) = x[i].upto_ := by
  unfold atF
  rw [if_neg (by omega), List.getD_eq_getElem?_getD, show i + 1 - 1 = i from by omega, List.getElem?_eq_getElem hi]
  rfl
end Go.Proofs.YtbhccicibmcafaaGreatDoor
