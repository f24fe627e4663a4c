/- Texts of this claim, put together: IntRow, Proof, SufP. -/
import Derived.Test.YtmlpfbffecdepaaGreatDoorGB
import Derived.Test.YtmlpfbffecdepaaGreatDoorShelf
import Derived.Sort.OwnSortedInts
import Derived.Shelf.Slices.In.SortNone
import Derived.Test.YtmlpfbffecdepaaGreatDoorGH
import Derived.Test.YtmlpfbffecdepaaGreatDoorGE
/- Rows of integers: slices.Contains, slices.Sort. -/
namespace Go.Proofs.YtmlpfbffecdepaaGreatDoor
set_option linter.unusedVariables false
open Go.RowKit
def fI (z : Int) (_ : Nat) : Value := .int .i64 z
theorem cellsOf_fI (zs : List Int) : cellsOf 1 fI zs = zs.map (Value.int .i64) := by
  unfold cellsOf
  induction zs with
  | nil => rfl
  | cons z zs ih => rw [List.flatMap_cons, ih]; rfl
theorem sort_I (B : Nat) (v : Value) (zs : List Int) (w : World) (hO : Orow w B 3 1 fI v zs) (hl : zs.length ≤ 1000000) :
    Calls Tryz.prog 43 #[v] w fun e w' => e = .returned (.tuple #[]) ∧ Orow w' B 3 1 fI v (zs.mergeSort fun x y => decide (x ≤ y)) ∧ w.grownBy w' v.ownBlock := by
  rcases hO.2 with ⟨rfl, hn⟩ | ⟨g, cap, cur, rfl, hB, hh, hle, hm, hs, ht⟩
  · have : zs = [] := List.eq_nil_of_length_eq_zero hn
    subst this
    refine (Any.slices_Sort_int_none Tryz.lays189 none 0 w).mono ?_
    rintro e w' ⟨rfl, n, rfl⟩
    exact ⟨rfl, by simpa using Orow.nil _ _ _ _ _, ⟨rfl, rfl, rfl, Nat.le_refl _, fun k hk _ => rfl⟩⟩
  · rw [cellsOf_fI, Nat.mul_one] at ht
    have hlt : g < w.heap.size := lt_of_heap hh
    refine (Tryz.slices_Sort_int g 0 cap zs w (holds_of_blockI hh ht) hlt (by omega)).mono ?_
    rintro e w' ⟨rfl, n, os, rfl⟩
    have hl2 : (zs.mergeSort fun x y => decide (x ≤ y)).length = zs.length := List.length_mergeSort _
    refine ⟨rfl, ?_, grownBy_sortedI _⟩
    have := ownsRow_sortedI (n := n) (os := os) hl2 hB hh hle hm hs
    unfold Orow
    rw [cellsOf_fI, hl2]
    exact this
theorem Orow.mono_v {D : Type} {w : World} {B T k : Nat} {f : D → Nat → Value} {v : Value} {ds ds' : List D} (h : Orow w B T k f v ds) (e : ds = ds') : Orow w B T k f v ds' := e ▸ h
end Go.Proofs.YtmlpfbffecdepaaGreatDoor

/- Consents: Proof. -/
namespace Go.Proofs.YtmlpfbffecdepaaGreatDoor
set_option linter.unusedVariables false
open Go.RowKit
def coNo (said : List StD) (t : TermD) (purp : ByteArray) (g : StD) : Int := ((coF purp g.at_ (g.at_ + t.wait) said).getD zeroSt).no
def prfRaw (said : List StD) (t : TermD) (purp : ByteArray) (no : Int) : List Int := no :: (said.filter fun g => decide (g.no = no)).map (coNo said t purp)
def prfL (said : List StD) (t : TermD) (purp : ByteArray) (a : AnsD) : List Int :=
  if a.no = 0 then [] else if a.why ≠ 2 ∨ t.wait = 0 then [a.no] else (prfRaw said t purp a.no).mergeSort fun x y => decide (x ≤ y)
def proofA (ps : List PurD) (ss : List StD) (kind : Int) (text purp region : ByteArray) (ch at_ : Int) : List Int :=
  if allErr ps ss [⟨kind, text⟩] 1 purp region ch at_ ≠ 0 then [] else prfL (upTo (saidF ss kind text ch) at_) ((termF ps purp region ch).getD zeroTe) purp (askF ps ss kind text purp region ch at_)
def ProofPost (w : World) (l : List Int) (er : Int) (e : Ending) (w' : World) : Prop := ∃ v, e = .returned (.tuple #[v, .int .i64 er]) ∧ Orow w' w.heap.size 3 1 fI v l ∧ Below w.heap.size w w'
theorem take_all_prefix {D : Type} (p : D → Bool) (l : List D) : l.takeWhile p = l.take (l.takeWhile p).length := by
  conv => rhs; rw [← List.takeWhile_append_dropWhile (p := p) (l := l)]
  rw [List.take_left']
  rw [List.takeWhile_append_dropWhile]
theorem infoI : (Tryz.prog.info? 3).map (fun i => (i.zero, i.size, i.bytes)) = some (some (.int .i64 0), 1, 8) := by kernel_rfl
/-- The blocks of a question of one id. -/
structure PS (H : Frz) (w : World) (x : IdD) (qv : Array Value) (W : World) : Prop where
  inn : H.In W
  bel : Below w.heap.size w W
  h1 : W.heap[w.heap.size]? = some (.cells #[.int .i64 x.kind, .string x.text] 32)
  h3 : W.heap[w.heap.size + 1]? = some (.cells qv 85)
theorem PS.below {H : Frz} {w W W' : World} {x : IdD} {qv : Array Value} (h : PS H w x qv W) (hb : Below W.heap.size W W') : PS H w x qv W' :=
  ⟨h.inn.below hb, h.bel.trans (hb.mono h.bel.size), (hb.block _ (lt_of_heap h.h1)).trans h.h1, (hb.block _ (lt_of_heap h.h3)).trans h.h3⟩
theorem PS.start {H : Frz} {w : World} (hH : H.In w) (x : IdD) (qv : Array Value) : PS H w x qv ((w.alloc (.cells #[.int .i64 x.kind, .string x.text] 32)).alloc (.cells qv 85)) :=
  ⟨(hH.alloc _).alloc _, new2 (w := w) _ _, (heap_lt (by simp)).trans (heap_alloc_new _ _), heap_at (by simp)⟩
/-- A row of integers in the making, in a function that only makes memory. -/
structure IR (H : Frz) (B : Nat) (v : Value) (zs : List Int) (w W : World) : Prop where
  inn : H.In W
  row : Orow W B 3 1 fI v zs
  own : ∀ g, v.ownBlock = some g → H g = none
  bel : Below w.heap.size w W
  hB : w.heap.size ≤ B
  le : B ≤ W.heap.size
section
variable {H : Frz} {B : Nat} {v v' : Value} {zs zs' : List Int} {w W W' : World}
theorem IR.below (h : IR H B v zs w W) (hb : Below W.heap.size W W') : IR H B v zs w W' :=
  ⟨h.inn.below hb, h.row.below hb, h.own, h.bel.trans (hb.mono h.bel.size), h.hB, Nat.le_trans h.le hb.size⟩
theorem IR.app (h : IR H B v zs w W) (o : Orow W' B 3 1 fI v' zs') (g1 : W.grownBy W' v.ownBlock) (at1 : v'.ownBlock = v.ownBlock ∨ ∃ g, v'.ownBlock = some g ∧ W.heap.size < g) : IR H B v' zs' w W' :=
  ⟨h.inn.grown' g1 h.own, o, fun q hq => by
    rcases at1 with e | ⟨g, e, hg⟩
    · exact h.own q (by rw [← e]; exact hq)
    · rw [e] at hq; injection hq with hq; exact h.inn.none_ (by omega), h.bel.grown g1 h.bel.size (fun g hg => Nat.le_trans h.hB (h.row.lt hg).1), h.hB, Nat.le_trans h.le g1.size⟩
end
set_option maxHeartbeats 8000000 in
set_option maxRecDepth 100000 in
theorem proof_any (H : Frz) (hM : MLen H) (A : Option Addr) (cap : Nat) (ps : List PurD) (A2 : Option Addr) (cap2 : Nat) (ss : List StD) (kind : Int) (text purp region : ByteArray) (ch at_ : Int) (w : World) (hH : H.In w)
    (hP : PolIn H A ps) (hl : ps.length ≤ 1000000) (hR : Rw H A2 8 fSt ss) (hl2 : ss.length < 20) (hsz : SzSt ss) (htz : text.size ≤ 1000000) (hrz : region.size ≤ 1000000) :
    Calls Tryz.prog 12 #[.slice A ps.length cap, .slice A2 ss.length cap2, .agg #[.int .i64 kind, .string text], .string purp, .string region, .int .i64 ch, .int .i64 at_] w (ProofPost w (proofA ps ss kind text purp region ch at_) (allErr ps ss [⟨kind, text⟩] 1 purp region ch at_)) := by
  obtain ⟨i0, hi0, hz0, hz1, hz2⟩ := info_parts infoI
  have HM0 := Lib.hid (PS.start hH ⟨kind, text⟩ #[.slice A ps.length cap, .string purp, .string region, .int .i64 ch, .int .i64 at_])
  have HM := Lib.hid hM
  have HP := Lib.hid hP
  have HR := Lib.hid hR
  have HSZ := Lib.hid hsz
  have HPA : Hid (proofA ps ss kind text purp region ch at_ = if allErr ps ss [⟨kind, text⟩] 1 purp region ch at_ ≠ 0 then [] else prfL (upTo (saidF ss kind text ch) at_) ((termF ps purp region ch).getD zeroTe) purp (askF ps ss kind text purp region ch at_)) := rfl
  have HER := Lib.hid (fun h0 : allErr ps ss [⟨kind, text⟩] 1 purp region ch at_ = 0 => all_right h0)
  clear hH hM hP hR hsz
  go_enter Tryz.func12, Tryz.ntmps12
  go_upto_region 2 with (fail)
  generalize (w.alloc (.cells #[.int .i64 kind, .string text] 32)).alloc (.cells #[.slice A ps.length cap, .string purp, .string region, .int .i64 ch, .int .i64 at_] 85) = W0 at *
  have hk1 := HM0.out.h1
  have hk3 := HM0.out.h3
  have i0_ : W0.cell? ⟨w.heap.size, 0, none⟩ = some (.int .i64 kind) := cell_h hk1 0 rfl
  have i1_ : W0.cell? ⟨w.heap.size, 1, none⟩ = some (.string text) := cell_h hk1 1 rfl
  have q0 : W0.cell? ⟨w.heap.size + 1, 0, none⟩ = some (.slice A ps.length cap) := cell_h hk3 0 rfl
  have q1 : W0.cell? ⟨w.heap.size + 1, 1, none⟩ = some (.string purp) := cell_h hk3 1 rfl
  have q2 : W0.cell? ⟨w.heap.size + 1, 2, none⟩ = some (.string region) := cell_h hk3 2 rfl
  have q3 : W0.cell? ⟨w.heap.size + 1, 3, none⟩ = some (.int .i64 ch) := cell_h hk3 3 rfl
  have q4 : W0.cell? ⟨w.heap.size + 1, 4, none⟩ = some (.int .i64 at_) := cell_h hk3 4 rfl
  obtain ⟨H1, hle, hblk, hin1⟩ := HM0.out.inn.put (.cells #[.int .i64 kind, .string text] 32)
  have hR1 : Rw H1 (some ⟨W0.heap.size, 0, none⟩) 2 fId [⟨kind, text⟩] := Rw_blk hblk
  have HCA := Lib.hid (checkAll_any H1 (HM.out.le hle) A cap ps A2 cap2 ss (some ⟨W0.heap.size, 0, none⟩) 1 [⟨kind, text⟩] 1 purp region ch at_ _ hin1 (HP.out.le hle) hl (HR.out.le hle) (by omega) HSZ.out hR1 (by simp) (fun x hx => by simp at hx; rw [hx]; exact htz) hrz)
  have HM1 := Lib.hid (HM0.out.below (new1 (.cells #[.int .i64 kind, .string text] 32)))
  clear hk1 hk3 hle hblk hin1 hR1 HM0
  go_wp2_with fail
  refine HCA.out.mono ?_
  rintro e w1 ⟨rfl, hb⟩
  have HM2 := Lib.hid (HM1.out.below hb)
  clear i0_ i1_ q0 q1 q2 q3 q4 HCA hb HM1
  generalize allErr ps ss [⟨kind, text⟩] 1 purp region ch at_ = ae at *
  by_cases g1 : ae = 0
  · obtain ⟨r1, r2, r3⟩ := HER.out g1
    have HV := Lib.hid (HPA.out.trans (if_neg (by simpa using g1)))
    subst g1
    have hpol := say_pol r1
    have hps := pol_right hpol
    have hat := que_at r3
    have HBD := Lib.hid (said_bd (say_bd r1) kind text ch)
    have hsl := said_len ss kind text ch
    have HTB := Lib.hid (term_tb hpol (purp := purp) (region := region) (ch := ch))
    have HASK := Lib.hid (ask_any H A cap ps purp region ch at_ A2 cap2 ss kind text w1 HM2.out.inn HP.out hps.1 (fun p hp => (tes_right (hps.2 p hp)).1) hl HR.out hl2)
    have HSA := Lib.hid (saidF_at ss kind text ch)
    have HAF : Hid (askF ps ss kind text purp region ch at_ = answerF (termF ps purp region ch) purp (saidF ss kind text ch) at_) := rfl
    have i0_ : w1.cell? ⟨w.heap.size, 0, none⟩ = some (.int .i64 kind) := cell_h HM2.out.h1 0 rfl
    have i1_ : w1.cell? ⟨w.heap.size, 1, none⟩ = some (.string text) := cell_h HM2.out.h1 1 rfl
    have q0 : w1.cell? ⟨w.heap.size + 1, 0, none⟩ = some (.slice A ps.length cap) := cell_h HM2.out.h3 0 rfl
    have q1 : w1.cell? ⟨w.heap.size + 1, 1, none⟩ = some (.string purp) := cell_h HM2.out.h3 1 rfl
    have q2 : w1.cell? ⟨w.heap.size + 1, 2, none⟩ = some (.string region) := cell_h HM2.out.h3 2 rfl
    have q3 : w1.cell? ⟨w.heap.size + 1, 3, none⟩ = some (.int .i64 ch) := cell_h HM2.out.h3 3 rfl
    have q4 : w1.cell? ⟨w.heap.size + 1, 4, none⟩ = some (.int .i64 at_) := cell_h HM2.out.h3 4 rfl
    clear r1 r2 r3 hpol hps HER HPA
    generalize saidF ss kind text ch = sd at *
    generalize termF ps purp region ch = o at *
    go_wp2_with fail
    refine HASK.out.mono ?_
    rintro e w2 ⟨v, rfl, hO, hb⟩
    obtain ⟨A4, cap4, H2, hv, hle4, p1, p2, hR4, -⟩ := hO.freeze H
    subst hv
    have hin2 := p1 (HM2.out.inn.below hb)
    have hB2 := HM2.out.bel.trans (hb.mono HM2.out.bel.size)
    clear i0_ i1_ q0 q1 q2 q3 q4 HASK
    obtain ⟨t, ht, -⟩ := terV_eq o
    have HT : Hid (o.getD zeroTe = t) := ht.symm
    have HTT : Hid (∀ t', o = some t' → t' = t) := fun t' h => by rw [ht, h]; rfl
    rw [HT.out] at HV ⊢
    clear ht
    have HB3 := Lib.hid (hB2.alloc hB2.size (.cells #[.string t.region, .int .i64 t.ch, .bool t.free, .int .i64 t.days, .int .i64 t.wait, .bool o.isSome, .string purp, .slice A4 sd.length cap4] 89))
    obtain ⟨H3, le3, hblk3, hin3⟩ := hin2.put (.cells #[.string t.region, .int .i64 t.ch, .bool t.free, .int .i64 t.days, .int .i64 t.wait, .bool o.isSome, .string purp, .slice A4 sd.length cap4] 89)
    have HIN3 := Lib.hid hin3
    have HR3 := Lib.hid (hR4.le le3)
    have HBK3 := Lib.hid hblk3
    have HAN := Lib.hid (fun W (hW : H3.In W) => answer_any H3 A4 cap4 sd o purp at_ W hW (hR4.le le3) HSA.out (by omega) hle4 HBD.out HTB.out (by omega) (by omega))
    rw [HT.out] at HAN
    clear hO p1 p2 hR4 hin2 hb hB2 le3 hin3 hblk3 HM2
    go_upto_region 6 with (fail)
    generalize w2.alloc (.cells #[.string t.region, .int .i64 t.ch, .bool t.free, .int .i64 t.days, .int .i64 t.wait, .bool o.isSome, .string purp, .slice A4 sd.length cap4] 89) = W3 at *
    generalize w2.heap.size = qb at *
    have a0 : W3.cell? ⟨qb, 0, none⟩ = some (.string t.region) := cell_h (HIN3.out _ _ HBK3.out) 0 rfl
    have a1 : W3.cell? ⟨qb, 1, none⟩ = some (.int .i64 t.ch) := cell_h (HIN3.out _ _ HBK3.out) 1 rfl
    have a2 : W3.cell? ⟨qb, 2, none⟩ = some (.bool t.free) := cell_h (HIN3.out _ _ HBK3.out) 2 rfl
    have a3 : W3.cell? ⟨qb, 3, none⟩ = some (.int .i64 t.days) := cell_h (HIN3.out _ _ HBK3.out) 3 rfl
    have a4 : W3.cell? ⟨qb, 4, none⟩ = some (.int .i64 t.wait) := cell_h (HIN3.out _ _ HBK3.out) 4 rfl
    have a5 : W3.cell? ⟨qb, 5, none⟩ = some (.bool o.isSome) := cell_h (HIN3.out _ _ HBK3.out) 5 rfl
    have a6 : W3.cell? ⟨qb, 6, none⟩ = some (.string purp) := cell_h (HIN3.out _ _ HBK3.out) 6 rfl
    have a7 : W3.cell? ⟨qb, 7, none⟩ = some (.slice A4 sd.length cap4) := cell_h (HIN3.out _ _ HBK3.out) 7 rfl
    go_wp2_with fail
    refine (HAN.out _ HIN3.out).mono ?_
    rintro e w4 ⟨rfl, hb⟩
    rw [← HAF.out]
    clear HAN a0 a1 a2 a3 a4 a5 a6 a7
    generalize askF ps ss kind text purp region ch at_ = ans at HV HAF ⊢
    obtain ⟨am, ay, an⟩ := ans
    rw [show ansV ⟨am, ay, an⟩ = .agg #[.bool am, .int .i64 ay, .int .i64 an] from rfl]
    have hin4 := HIN3.out.below hb
    have hB4 := HB3.out.trans (hb.mono HB3.out.size)
    obtain ⟨H5, le5, hblk5, hin5⟩ := hin4.put (.cells #[.bool am, .int .i64 ay, .int .i64 an] 92)
    have HB5 := Lib.hid (hB4.alloc hB4.size (.cells #[.bool am, .int .i64 ay, .int .i64 an] 92))
    have HIN5 := Lib.hid hin5
    have HBK5 := Lib.hid hblk5
    have HQB5 := Lib.hid (le5 _ _ HBK3.out)
    have HR5 := Lib.hid (HR3.out.le le5)
    clear hb hin4 hB4 hin5 hblk5 le5 HBK3 HIN3 HB3 HR3
    go_upto_region 7 with (fail)
    generalize w4.alloc (.cells #[.bool am, .int .i64 ay, .int .i64 an] 92) = W5 at *
    generalize w4.heap.size = ab at *
    have x1 : W5.cell? ⟨ab, 1, none⟩ = some (.int .i64 ay) := cell_h (HIN5.out _ _ HBK5.out) 1 rfl
    have x2 : W5.cell? ⟨ab, 2, none⟩ = some (.int .i64 an) := cell_h (HIN5.out _ _ HBK5.out) 2 rfl
    have HPL : Hid (prfL (upTo sd at_) t purp ⟨am, ay, an⟩ = if an = 0 then [] else if ay ≠ 2 ∨ t.wait = 0 then [an] else (prfRaw (upTo sd at_) t purp an).mergeSort fun x y => decide (x ≤ y)) := rfl
    by_cases h0 : an = 0
    · have k0 : (an == 0) = true := by simpa using h0
      have HF := Lib.hid (show ProofPost w (proofA ps ss kind text purp region ch at_) 0 (.returned (.tuple #[.slice none 0 0, .int .i64 0])) W5 from ⟨_, rfl, by rw [HV.out, HPL.out, if_pos h0]; exact Orow.nil _ _ _ _ _, HB5.out⟩)
      clear h0 HV HPL
      go_wp2_with fail
      go_ret2
      exact HF.out
    · have k0 : (an == 0) = false := by simpa using h0
      have HPL2 := Lib.hid (HPL.out.trans (if_neg h0))
      have hw5 : w.heap.size ≤ W5.heap.size := HB5.out.size
      have HI0 : Hid (IR H5 W5.heap.size (.slice (some ⟨W5.heap.size, 0, none⟩) 1 1) [an] w (W5.alloc (.cells #[.int .i64 an] 3))) :=
        ⟨HIN5.out.alloc _, Orow.of_blk (rest := []) (heap_alloc_new _ _) (Nat.le_refl _) (by decide) (Nat.le_refl _) rfl, fun g hg => by have hg2 : W5.heap.size = g := Option.some.inj hg; subst hg2; exact HIN5.out.none_ (Nat.le_refl _), HB5.out.alloc hw5 _, hw5, by simp⟩
      clear h0 HPL HB5
      go_upto_region 10 with (fail)
      clear x1 x2 HIN5
      generalize hW6 : W5.alloc (.cells #[.int .i64 an] 3) = W6 at *
      clear hW6
      generalize W5.heap.size = ib at *
      have x1 : W6.cell? ⟨ab, 1, none⟩ = some (.int .i64 ay) := cell_h (HI0.out.inn _ _ HBK5.out) 1 rfl
      have a4 : W6.cell? ⟨qb, 4, none⟩ = some (.int .i64 t.wait) := cell_h (HI0.out.inn _ _ HQB5.out) 4 rfl
      by_cases h2 : ay ≠ 2 ∨ t.wait = 0
      · have HF := Lib.hid (show ProofPost w (proofA ps ss kind text purp region ch at_) 0 (.returned (.tuple #[.slice (some ⟨ib, 0, none⟩) 1 1, .int .i64 0])) W6 from ⟨_, rfl, by rw [HV.out, HPL2.out, if_pos h2]; exact HI0.out.row.mono HI0.out.hB, HI0.out.bel⟩)
        by_cases h3 : ay = 2
        · have h4 : t.wait = 0 := h2.resolve_left (fun c => c h3)
          have k3 : (ay != 2) = false := by simpa using h3
          have k4 : (t.wait == 0) = true := by simpa using h4
          clear h2 h3 h4 HV HPL2
          go_wp2_with fail
          go_ret2
          exact HF.out
        · have k3 : (ay != 2) = true := by simpa using h3
          clear h2 h3 HV HPL2
          go_wp2_with fail
          go_ret2
          exact HF.out
      · have HPL3 := Lib.hid (HPL2.out.trans (if_neg h2))
        have k3 : (ay != 2) = false := by
          by_cases c : ay = 2
          · simp [c]
          · exact absurd (Or.inl c) h2
        have k4 : (t.wait == 0) = false := by
          by_cases c : t.wait = 0
          · exact absurd (Or.inr c) h2
          · simpa using c
        clear h2 HPL2
        have a7 : W6.cell? ⟨qb, 7, none⟩ = some (.slice A4 sd.length cap4) := cell_h (HI0.out.inn _ _ HQB5.out) 7 rfl
        have HUP := Lib.hid (upTo_any H5 A4 cap4 sd at_ W6 HI0.out.inn HR5.out HSA.out (by omega) hle4 (by omega) (by omega))
        go_wp2_with fail
        refine HUP.out.mono ?_
        rintro e w7 ⟨rfl, hb⟩
        have HI7 := Lib.hid (HI0.out.below hb)
        have HRU := Lib.hid (HR5.out.upTo at_)
        have HBU := Lib.hid (HBD.out.upTo at_)
        have hul : (upTo sd at_).length ≤ sd.length := (List.takeWhile_sublist _).length_le
        clear hb HUP x1 a4 a7 HI0 HSA HBD k3 k4
        generalize upTo sd at_ = su at *
        have hwt := Lib.hid (show 0 ≤ t.wait ∧ t.wait ≤ 100000 from by
          cases o with
          | none => have := HT.out; rw [← this]; exact ⟨by decide, by decide⟩
          | some t' => have e1 := HTT.out t' rfl; have := (HTB.out t' rfl).2; rw [e1] at this; exact this)
        go_wp2_with fail
        go_loopw [20, 23, 24, 25, 69] (fun v _ _ _ i wr => ∃ (k : Nat) (v' : Value), k ≤ su.length ∧ i = .int .i64 k ∧ v = v' ∧ Hid (IR H5 ib v' (an :: ((su.take k).filter fun g => decide (g.no = an)).map (coNo su t purp)) w wr)) (fun _ _ _ _ i _ => su.length - (intOf i).toNat)
        case atStart => exact ⟨0, _, by omega, rfl, rfl, HI7⟩
        case round =>
          obtain ⟨k, v', hk, rfl, rfl, hI⟩ := hrel
          clear HI7
          by_cases hlt : k < su.length
          · obtain ⟨b, off, hA4, hbl, hc⟩ := HRU.out.at_ hI.out.inn hlt (by omega)
            subst hA4
            have c0 : wr.cell? ⟨b, off + k * 8, none⟩ = some (.int .i64 su[k].no) := hc 0 (by omega)
            have c1 : wr.cell? ⟨b, off + k * 8 + 1, none⟩ = some (.int .i64 su[k].at_) := hc 1 (by omega)
            have c2 : wr.cell? ⟨b, off + k * 8 + 2, none⟩ = some (.int .i64 su[k].kind) := hc 2 (by omega)
            have c3 : wr.cell? ⟨b, off + k * 8 + 3, none⟩ = some (.string su[k].text) := hc 3 (by omega)
            have c4 : wr.cell? ⟨b, off + k * 8 + 4, none⟩ = some (.string su[k].purp) := hc 4 (by omega)
            have c5 : wr.cell? ⟨b, off + k * 8 + 5, none⟩ = some (.string su[k].region) := hc 5 (by omega)
            have c6 : wr.cell? ⟨b, off + k * 8 + 6, none⟩ = some (.int .i64 su[k].ch) := hc 6 (by omega)
            have c7 : wr.cell? ⟨b, off + k * 8 + 7, none⟩ = some (.int .i64 su[k].what) := hc 7 (by omega)
            have HFS : Hid (((su.take (k + 1)).filter fun g => decide (g.no = an)) = ((su.take k).filter fun g => decide (g.no = an)) ++ if decide (su[k].no = an) = true then [su[k]] else []) := filter_snoc (fun g : StD => decide (g.no = an)) hlt
            have hbd := HBU.out _ (List.getElem_mem hlt)
            have hfl : ((su.take k).filter fun g => decide (g.no = an)).length ≤ 100 := by
              have h1 := List.length_filter_le (fun g : StD => decide (g.no = an)) (su.take k)
              have h2 := List.length_take_le k su
              omega
            clear hc
            generalize su[k] = d at *
            generalize hfs : ((su.take k).filter fun g => decide (g.no = an)) = fs at *
            clear hfs
            obtain ⟨fs1, hfs1⟩ : ∃ l, l = ((su.take (k + 1)).filter fun g => decide (g.no = an)) := ⟨_, rfl⟩
            rw [← hfs1] at HFS
            have HF1 := Lib.hid hfs1
            clear hfs1
            have HI8 := Lib.hid (hI.out.below (new1 (.cells #[.int .i64 d.no, .int .i64 d.at_, .int .i64 d.kind, .string d.text, .string d.purp, .string d.region, .int .i64 d.ch, .int .i64 d.what] 38)))
            have HNB : Hid ((wr.alloc (.cells #[.int .i64 d.no, .int .i64 d.at_, .int .i64 d.kind, .string d.text, .string d.purp, .string d.region, .int .i64 d.ch, .int .i64 d.what] 38)).heap[wr.heap.size]? = some (.cells #[.int .i64 d.no, .int .i64 d.at_, .int .i64 d.kind, .string d.text, .string d.purp, .string d.region, .int .i64 d.ch, .int .i64 d.what] 38)) := heap_alloc_new _ _
            go_upto_region 16 with (fail)
            clear c0 c1 c2 c3 c4 c5 c6 c7 hI
            generalize wr.alloc (.cells #[.int .i64 d.no, .int .i64 d.at_, .int .i64 d.kind, .string d.text, .string d.purp, .string d.region, .int .i64 d.ch, .int .i64 d.what] 38) = W8 at *
            generalize wr.heap.size = db at *
            have x0 : W8.cell? ⟨db, 0, none⟩ = some (.int .i64 d.no) := cell_h HNB.out 0 rfl
            have x1 : W8.cell? ⟨db, 1, none⟩ = some (.int .i64 d.at_) := cell_h HNB.out 1 rfl
            have x2 : W8.cell? ⟨ab, 2, none⟩ = some (.int .i64 an) := cell_h (HI8.out.inn _ _ HBK5.out) 2 rfl
            have a4 : W8.cell? ⟨qb, 4, none⟩ = some (.int .i64 t.wait) := cell_h (HI8.out.inn _ _ HQB5.out) 4 rfl
            by_cases hno : d.no = an
            · have k5 : (d.no == an) = true := by simpa using hno
              have hw1 := hwt.out.1
              have hw2 := hwt.out.2
              have HFS2 := Lib.hid (HFS.out.trans (by rw [if_pos (by simpa using hno)]))
              have HCN : Hid (coNo su t purp d = ((coF purp d.at_ (d.at_ + t.wait) su).getD zeroSt).no) := rfl
              have HCO := Lib.hid (confirmation_any H5 (some ⟨b, off, none⟩) cap4 su purp d.at_ (d.at_ + t.wait) W8 HI8.out.inn HRU.out (by omega))
              generalize coF purp d.at_ (d.at_ + t.wait) su = co at *
              clear hno HFS
              go_wp2_with fail
              refine HCO.out.mono ?_
              rintro e w9 ⟨rfl, hb⟩
              have HI9 := Lib.hid (HI8.out.below hb)
              obtain ⟨c9, hc9, hcv⟩ : ∃ c9 : StD, c9 = co.getD zeroSt ∧ stV co = .agg #[.int .i64 c9.no, .int .i64 c9.at_, .int .i64 c9.kind, .string c9.text, .string c9.purp, .string c9.region, .int .i64 c9.ch, .int .i64 c9.what] := ⟨_, rfl, by cases co <;> rfl⟩
              rw [hcv]
              rw [← hc9] at HCN
              have HI10 := Lib.hid (HI9.out.below (new1 (.cells #[.int .i64 c9.no, .int .i64 c9.at_, .int .i64 c9.kind, .string c9.text, .string c9.purp, .string c9.region, .int .i64 c9.ch, .int .i64 c9.what] 38)))
              have HNB9 : Hid ((w9.alloc (.cells #[.int .i64 c9.no, .int .i64 c9.at_, .int .i64 c9.kind, .string c9.text, .string c9.purp, .string c9.region, .int .i64 c9.ch, .int .i64 c9.what] 38)).heap[w9.heap.size]? = some (.cells #[.int .i64 c9.no, .int .i64 c9.at_, .int .i64 c9.kind, .string c9.text, .string c9.purp, .string c9.region, .int .i64 c9.ch, .int .i64 c9.what] 38)) := heap_alloc_new _ _
              clear hb HI8 HCO x0 x1 x2 a4 hcv hc9 HNB HI9
              go_upto_region 18 with (fail)
              generalize w9.alloc (.cells #[.int .i64 c9.no, .int .i64 c9.at_, .int .i64 c9.kind, .string c9.text, .string c9.purp, .string c9.region, .int .i64 c9.ch, .int .i64 c9.what] 38) = W10 at *
              generalize w9.heap.size = cb at *
              have x0 : W10.cell? ⟨cb, 0, none⟩ = some (.int .i64 c9.no) := cell_h HNB9.out 0 rfl
              have HRow := Lib.hid HI10.out.row
              have HST := Lib.hid (fun v' W' o g1 at1 => HI10.out.app (v' := v') (W' := W') (zs' := (an :: fs.map (coNo su t purp)) ++ [c9.no]) o g1 at1)
              have hB9 := HI10.out.le
              have hpl : (an :: fs.map (coNo su t purp)).length ≤ 4294967296 := by simp; omega
              generalize hzs : an :: fs.map (coNo su t purp) = zs at *
              have HZS := Lib.hid hzs
              clear hzs HI10
              go_wp2_with (at_builtin; refine wpList_app_at rfl _ _ 22 rfl ib 3 i0 (.int .i64 0) 1 8 Tryz.underlying22 hi0 hz0 hz1 hz2 rfl (by decide) fI _ zs rfl HRow.out c9.no #[.int .i64 c9.no] 3 rfl rfl (by simp [Value.oneCell']) hpl (by omega) hB9 ?_; intro v1 WM o1 g1 b1 at1; have HI11 := Lib.hid (HST.out _ _ o1 g1 at1); clear o1 g1 b1 at1 HST HRow)
              have HI12 : Hid (IR H5 ib v1 (an :: fs1.map (coNo su t purp)) w WM) := by
                have h := HI11.out
                rw [← HZS.out, ← HCN.out] at h
                show IR _ _ _ _ _ _
                rw [HFS2.out]
                simpa using h
              clear HI11 HZS
              go_roundw
              case rel => exact ⟨k + 1, _, by omega, by go_num, rfl, by rw [← HF1.out]; exact HI12⟩
              case measure => simp [intOf]; omega
            · have k5 : (d.no == an) = false := by simpa using hno
              have HFS2 := Lib.hid (HFS.out.trans (by rw [if_neg (by simpa using hno), List.append_nil]))
              rw [← HFS2.out] at HI8
              clear hno HFS HFS2
              go_wp2_with fail
              go_roundw
              case rel => exact ⟨k + 1, _, by omega, by go_num, rfl, by rw [← HF1.out]; exact HI8⟩
              case measure => simp [intOf]; omega
          · have hke : k = su.length := by omega
            subst hke
            rw [List.take_length] at hI
            have hfl : (su.filter fun g => decide (g.no = an)).length ≤ 100 := by
              have h1 := List.length_filter_le (fun g : StD => decide (g.no = an)) su
              omega
            obtain ⟨vg, rfl⟩ : ∃ vg : Value, vg = u20 := ⟨_, rfl⟩
            have HSO := Lib.hid (sort_I ib vg _ wr hI.out.row (by simp; omega))
            have HIR := Lib.hid hI.out
            clear hI
            go_wp2_with fail
            refine HSO.out.mono ?_
            rintro e w11 ⟨rfl, ho, hg⟩
            have HF := Lib.hid (show ProofPost w (proofA ps ss kind text purp region ch at_) 0 (.returned (.tuple #[vg, .int .i64 0])) w11 from ⟨_, rfl, by rw [HV.out, HPL3.out]; exact ho.mono HIR.out.hB, HIR.out.bel.grown hg HIR.out.bel.size (fun g hg => Nat.le_trans HIR.out.hB (HIR.out.row.lt hg).1)⟩)
            clear ho hg HSO HIR HV HPL3
            go_wp2_with fail
            go_ret2
            exact HF.out
  · have HV := Lib.hid (HPA.out.trans (if_pos g1))
    have k1 : (ae != 0) = true := by simpa using g1
    have HF := Lib.hid (show ProofPost w (proofA ps ss kind text purp region ch at_) ae (.returned (.tuple #[.slice none 0 0, .int .i64 ae])) w1 from ⟨_, rfl, by rw [HV.out]; exact Orow.nil _ _ _ _ _, HM2.out.bel⟩)
    clear g1 HV HPA
    go_wp2_with fail
    go_ret2
    exact HF.out
end Go.Proofs.YtmlpfbffecdepaaGreatDoor

/- An answer, asked with its proof alone, is the same: plain law. -/
namespace Go.Proofs.YtmlpfbffecdepaaGreatDoor
set_option linter.unusedVariables false
open Go.RowKit
def Uniq (l : List StD) : Prop := l.Pairwise fun a b => a.no ≠ b.no
theorem Uniq.filter {l : List StD} (h : Uniq l) (p : StD → Bool) : Uniq (l.filter p) := List.Pairwise.filter p h
theorem filter_one {l : List StD} (h : Uniq l) {s : StD} (hs : s ∈ l) : l.filter (fun d => decide (d.no = s.no)) = [s] := by
  induction l with
  | nil => cases hs
  | cons x l ih =>
    unfold Uniq at h
    rw [List.pairwise_cons] at h
    rcases List.mem_cons.1 hs with rfl | hm
    · have : l.filter (fun d => decide (d.no = s.no)) = [] := by
        rw [List.filter_eq_nil_iff]
        intro y hy
        have := h.1 y hy
        simp
        exact fun c => this c.symm
      simp [this]
    · have hx : x.no ≠ s.no := h.1 s hm
      rw [List.filter_cons, if_neg (by simpa using hx)]
      exact ih h.2 hm
theorem uniq_inj {l : List StD} (h : Uniq l) {a b : StD} (ha : a ∈ l) (hb : b ∈ l) (e : a.no = b.no) : a = b := by
  have h1 := filter_one h hb
  have h2 : a ∈ l.filter (fun d => decide (d.no = b.no)) := List.mem_filter.2 ⟨ha, by simpa using e⟩
  rw [h1] at h2
  simpa using h2
theorem filter_two_len {l : List StD} {n m : Int} (hne : n ≠ m) : (l.filter fun d => decide (d.no = n ∨ d.no = m)).length = (l.filter fun d => decide (d.no = n)).length + (l.filter fun d => decide (d.no = m)).length := by
  induction l with
  | nil => rfl
  | cons x l ih =>
    by_cases h1 : x.no = n
    · have h2 : x.no ≠ m := fun c => hne (h1.symm.trans c)
      rw [List.filter_cons, List.filter_cons, List.filter_cons, if_pos (by simp [h1]), if_pos (by simp [h1]), if_neg (by simpa using h2)]
      simp only [List.length_cons, ih]
      omega
    · by_cases h2 : x.no = m
      · rw [List.filter_cons, List.filter_cons, List.filter_cons, if_pos (by simp [h2]), if_neg (by simpa using h1), if_pos (by simp [h2])]
        simp only [List.length_cons, ih]
        omega
      · rw [List.filter_cons, List.filter_cons, List.filter_cons, if_neg (by simp [h1, h2]), if_neg (by simpa using h1), if_neg (by simpa using h2)]
        exact ih
/-- What an objection, a withdrawal, the best grant is. -/
theorem obj_from : ∀ (l : List StD) (s : ObjD), (l.foldl objStep s).is = true → (s.is = true ∧ (l.foldl objStep s).no = s.no) ∨ ∃ x ∈ l, x.what = 4 ∧ (l.foldl objStep s).no = x.no
  | [], s, h => Or.inl ⟨h, rfl⟩
  | x :: l, s, h => by
    rw [List.foldl_cons] at h ⊢
    rcases obj_from l (objStep s x) h with ⟨h1, h2⟩ | ⟨y, hy, h3⟩
    · rw [h2]
      unfold objStep at h1 ⊢
      split
      · rename_i c
        rw [if_pos c] at h1
        exact Or.inl ⟨h1, rfl⟩
      · rename_i c
        rw [if_neg c] at h1
        by_cases c2 : s.last < x.at_
        · simp only [if_pos c2] at h1 ⊢
          split
          · rename_i c3; exact Or.inr ⟨x, List.mem_cons_self, c3.1, rfl⟩
          · rename_i c3
            rw [if_neg c3] at h1
            cases h1
        · simp only [if_neg c2] at h1 ⊢
          split
          · rename_i c3; exact Or.inr ⟨x, List.mem_cons_self, c3.1, rfl⟩
          · rename_i c3
            rw [if_neg c3] at h1
            exact Or.inl ⟨h1, rfl⟩
    · exact Or.inr ⟨y, List.mem_cons_of_mem _ hy, h3⟩
theorem obj_not : ∀ (l : List StD) (s : ObjD), (∀ x ∈ l, ofCh x.what = false) → l.foldl objStep s = s
  | [], s, h => rfl
  | x :: l, s, h => by
    rw [List.foldl_cons]
    have : objStep s x = s := by unfold objStep; rw [if_pos (h x List.mem_cons_self)]
    rw [this]
    exact obj_not l s fun y hy => h y (List.mem_cons_of_mem _ hy)
theorem obj_one {s : StD} (h : s.what = 4) (h0 : 0 ≤ s.at_) : objF [s] = ⟨s.no, s.at_, true⟩ := by
  unfold objF objStep
  simp only [List.foldl_cons, List.foldl_nil]
  rw [if_neg (by rw [h]; decide), if_pos (show (-1 : Int) < s.at_ by omega)]
  simp [h]
theorem wd_from (purp : ByteArray) : ∀ (l : List StD) (w : Option StD) (x : StD), l.foldl (wdStep purp) w = some x → w = some x ∨ (x ∈ l ∧ x.what = 3 ∧ eqS x.purp purp = true)
  | [], w, x, h => Or.inl h
  | y :: l, w, x, h => by
    rw [List.foldl_cons] at h
    rcases wd_from purp l _ x h with h1 | ⟨h1, h2⟩
    · unfold wdStep at h1
      split at h1
      · rename_i c
        injection h1 with h1
        subst h1
        exact Or.inr ⟨List.mem_cons_self, c.1, c.2.1⟩
      · exact Or.inl h1
    · exact Or.inr ⟨List.mem_cons_of_mem _ h1, h2⟩
theorem wd_not (purp : ByteArray) : ∀ (l : List StD) (w : Option StD), (∀ x ∈ l, x.what ≠ 3) → l.foldl (wdStep purp) w = w
  | [], w, h => rfl
  | x :: l, w, h => by
    rw [List.foldl_cons]
    have : wdStep purp w x = w := by unfold wdStep; rw [if_neg (fun c => h x List.mem_cons_self c.1)]
    rw [this]
    exact wd_not purp l w fun y hy => h y (List.mem_cons_of_mem _ hy)
theorem best_from (l : List StD) (t : TermD) (at_ : Int) : ∀ (gs : List StD) (b : BestD), gs.foldl (bestStep l t at_) b = b ∨ ∃ g ∈ gs, (gs.foldl (bestStep l t at_) b).no = g.no ∧ (gs.foldl (bestStep l t at_) b).why = stateF l t g at_
  | [], b => Or.inl rfl
  | g :: gs, b => by
    rw [List.foldl_cons]
    rcases best_from l t at_ gs (bestStep l t at_ b g) with h | ⟨x, hx, h⟩
    · rw [h]
      unfold bestStep
      split
      · exact Or.inr ⟨g, List.mem_cons_self, rfl, rfl⟩
      · exact Or.inl rfl
    · exact Or.inr ⟨x, List.mem_cons_of_mem _ hx, h⟩
theorem best_some {l : List StD} {t : TermD} {at_ : Int} {gs : List StD} (h : gs ≠ []) : ∃ g ∈ gs, (bestF l t at_ gs).no = g.no ∧ (bestF l t at_ gs).why = stateF l t g at_ := by
  cases gs with
  | nil => exact absurd rfl h
  | cons g gs =>
    unfold bestF
    rw [List.foldl_cons]
    have e : bestStep l t at_ ⟨0, 0, 0⟩ g = ⟨stateF l t g at_, g.at_, g.no⟩ := by unfold bestStep; rw [if_pos (Or.inl rfl)]
    rw [e]
    rcases best_from l t at_ gs ⟨stateF l t g at_, g.at_, g.no⟩ with h | ⟨x, hx, h⟩
    · rw [h]; exact ⟨g, List.mem_cons_self, rfl, rfl⟩
    · exact ⟨x, List.mem_cons_of_mem _ hx, h⟩
theorem grant_one {l : List StD} {g : StD} {purp : ByteArray} {t : TermD} {at_ : Int} (hw : ∀ x ∈ l, x.what = 1 ∨ x.what = 2) (hg : grF purp l = [g]) (hf : t.free = false) :
    (objF l).is = false ∧ allowF l t purp at_ = ⟨decide (stateF l t g at_ = 2), stateF l t g at_, g.no⟩ := by
  have h1 : objF l = ⟨0, -1, false⟩ := obj_not l _ fun x hx => by rcases hw x hx with h | h <;> rw [h] <;> rfl
  have h2 : wdF purp l = none := wd_not purp l none fun x hx => by have := hw x hx; omega
  refine ⟨by rw [h1], ?_⟩
  have h3 : bestF l t at_ [g] = ⟨stateF l t g at_, g.at_, g.no⟩ := by
    unfold bestF bestStep
    simp
  unfold allowF
  rw [h2, hg, h3, if_neg (by simp), if_neg (by rw [hf]; simp), if_neg (by simp)]
theorem upTo_cut2 {l : List StD} (h : l.Pairwise fun a b => a.at_ ≤ b.at_) (c : StD → Bool) (at_ : Int) : upTo (l.filter c) at_ = (upTo l at_).filter c := by
  rw [upTo_filter (List.Pairwise.filter c h), upTo_filter h, List.filter_filter, List.filter_filter]
  congr 1
  funext s
  exact Bool.and_comm _ _
theorem said_cut (ss : List StD) (kind : Int) (text : ByteArray) (ch : Int) (c : StD → Bool) : saidF (ss.filter c) kind text ch = (saidF ss kind text ch).filter c := by
  unfold saidF
  rw [isort_filter, List.filter_filter, List.filter_filter]
  congr 2
  funext s
  exact Bool.and_comm _ _
theorem stOne_vals {ps : List PurD} {s : StD} (h : stOne ps s = 0) : 1 ≤ s.no ∧ 0 ≤ s.at_ ∧ 1 ≤ s.what ∧ s.what ≤ 5 := by
  unfold stOne at h
  split at h
  · cases h
  · rename_i c1
    split at h
    · cases h
    · rename_i c2
      split at h
      · rename_i c3; exact absurd h c3
      · split at h
        · cases h
        · rename_i c4
          have := Classical.not_not.1 c4
          omega
/-- The heart: an answer of what was said, asked with what its proof names. -/
theorem suffices_ {su : List StD} (hu : Uniq su) (hv : ∀ s ∈ su, 1 ≤ s.no ∧ 0 ≤ s.at_) (t : TermD) (purp : ByteArray) (at_ : Int) (a : AnsD)
    (ha : a = if (objF su).is = true then ⟨false, 6, (objF su).no⟩ else allowF su t purp at_) :
    (∃ pr : List StD, (∀ x ∈ pr, x ∈ su) ∧ ((pr = [] ∧ prfL su t purp a = []) ∨ (∃ x, pr = [x] ∧ prfL su t purp a = [x.no]) ∨ ∃ x y, pr = [x, y] ∧ x.no ≠ y.no ∧ prfL su t purp a = ([x.no, y.no] : List Int).mergeSort fun x y => decide (x ≤ y))) ∧
    (let su' := su.filter fun d => (prfL su t purp a).contains d.no; (if (objF su').is = true then ⟨false, 6, (objF su').no⟩ else allowF su' t purp at_) = a) := by
  have one : ∀ x ∈ su, ∀ n, n = x.no → (su.filter fun d => ([n] : List Int).contains d.no) = [x] := by
    intro x hx n hn
    subst hn
    rw [← filter_one hu hx]
    congr 1
    funext d
    simp [eq_comm]
  have none_ : (su.filter fun d => ([] : List Int).contains d.no) = [] := by simp
  by_cases h1 : (objF su).is = true
  · rw [if_pos h1] at ha
    rcases obj_from su _ h1 with ⟨c, _⟩ | ⟨x, hx, h2, h3⟩
    · cases c
    · have h3' : (objF su).no = x.no := h3
      rw [h3'] at ha
      have hx1 := hv x hx
      have hp : prfL su t purp a = [x.no] := by
        subst ha
        unfold prfL
        rw [if_neg (show ¬ x.no = 0 by omega), if_pos (Or.inl (show (6 : Int) ≠ 2 by omega))]
      refine ⟨⟨[x], by simpa using hx, Or.inr (Or.inl ⟨x, rfl, hp⟩)⟩, ?_⟩
      rw [hp, one x hx _ rfl]
      show (if (objF [x]).is = true then _ else _) = a
      rw [obj_one h2 hx1.2, if_pos rfl, ha]
  · rw [if_neg h1] at ha
    unfold allowF at ha
    by_cases h2 : (wdF purp su).isSome = true ∧ (grF purp su).length = 0
    · rw [if_pos h2] at ha
      obtain ⟨x, hx⟩ := Option.isSome_iff_exists.1 h2.1
      rcases wd_from purp su none x hx with c | ⟨hm, hw, he⟩
      · cases c
      · rw [hx] at ha
        have hx1 := hv x hm
        have hp : prfL su t purp a = [x.no] := by
          subst ha
          show (if x.no = 0 then ([] : List Int) else if (5 : Int) ≠ 2 ∨ t.wait = 0 then [x.no] else (prfRaw su t purp x.no).mergeSort fun x y => decide (x ≤ y)) = [x.no]
          rw [if_neg (show ¬ x.no = 0 by omega), if_pos (Or.inl (show (5 : Int) ≠ 2 by omega))]
        refine ⟨⟨[x], by simpa using hm, Or.inr (Or.inl ⟨x, rfl, hp⟩)⟩, ?_⟩
        rw [hp, one x hm _ rfl]
        have e1 : objF [x] = ⟨0, -1, false⟩ := obj_not [x] _ fun y hy => by simp at hy; subst hy; rw [hw]; rfl
        have e2 : wdF purp [x] = some x := by
          unfold wdF wdStep
          simp [hw, he]
        have e3 : grF purp [x] = [] := by
          unfold grF grB
          rw [List.filter_eq_nil_iff]
          intro y hy
          simp at hy
          subst hy
          simp [hw]
        show (if (objF [x]).is = true then _ else allowF [x] t purp at_) = a
        rw [e1, if_neg (by simp)]
        unfold allowF
        rw [e2, e3, if_pos ⟨rfl, rfl⟩, ha]
    · rw [if_neg h2] at ha
      by_cases h3 : t.free = true
      · rw [if_pos h3] at ha
        have hp : prfL su t purp a = [] := by subst ha; rfl
        refine ⟨⟨[], by simp, Or.inl ⟨rfl, hp⟩⟩, ?_⟩
        rw [hp, none_]
        show allowF [] t purp at_ = a
        unfold allowF
        rw [if_neg (by rintro ⟨c, -⟩; cases c), if_pos h3, ha]
      · rw [if_neg h3] at ha
        have h3' : t.free = false := by simpa using h3
        by_cases h4 : (grF purp su).length = 0
        · rw [if_pos h4] at ha
          have hp : prfL su t purp a = [] := by subst ha; rfl
          refine ⟨⟨[], by simp, Or.inl ⟨rfl, hp⟩⟩, ?_⟩
          rw [hp, none_]
          show allowF [] t purp at_ = a
          unfold allowF
          rw [if_neg (by rintro ⟨c, -⟩; cases c), if_neg h3, if_pos (show (grF purp []).length = 0 from rfl), ha]
        · rw [if_neg h4] at ha
          obtain ⟨g, hg, hb1, hb2⟩ := best_some (l := su) (t := t) (at_ := at_) (gs := grF purp su) (fun c => h4 (by rw [c]; rfl))
          rw [hb1, hb2] at ha
          have hgm : g ∈ su := (List.mem_filter.1 hg).1
          have hgb := (List.mem_filter.1 hg).2
          have hgw : g.what = 1 ∧ eqS g.purp purp = true := by
            unfold grB at hgb
            simp only [Bool.and_eq_true, decide_eq_true_eq] at hgb
            exact hgb.1
          have hg1 := hv g hgm
          by_cases h5 : stateF su t g at_ ≠ 2 ∨ t.wait = 0
          · have hp : prfL su t purp a = [g.no] := by
              subst ha
              unfold prfL
              rw [if_neg (show ¬ g.no = 0 by omega), if_pos h5]
            refine ⟨⟨[g], by simpa using hgm, Or.inr (Or.inl ⟨g, rfl, hp⟩)⟩, ?_⟩
            rw [hp, one g hgm _ rfl]
            have hgr : grF purp [g] = [g] := by
              have e2 : wdF purp [g] = none := wd_not purp [g] none fun y hy => by simp at hy; subst hy; rw [hgw.1]; omega
              unfold grF
              rw [e2]
              unfold grB
              simp [hgw.1, hgw.2]
            obtain ⟨o1, o2⟩ := grant_one (l := [g]) (g := g) (purp := purp) (t := t) (at_ := at_) (fun x hx => by simp at hx; subst hx; exact Or.inl hgw.1) hgr h3'
            have hst : stateF [g] t g at_ = stateF su t g at_ := by
              have hc : coF g.purp g.at_ (g.at_ + t.wait) [g] = none := by
                unfold coF coB
                simp [hgw.1]
              unfold stateF at h5 ⊢
              rw [hc]
              by_cases c1 : t.days ≠ 0 ∧ g.at_ + t.days * 1440 ≤ at_
              · rw [if_pos c1, if_pos c1]
              · rw [if_neg c1, if_neg c1]
                rw [if_neg c1] at h5
                by_cases c2 : t.wait = 0
                · rw [if_pos c2, if_pos c2]
                · rw [if_neg c2, if_neg c2]
                  rw [if_neg c2] at h5
                  by_cases c3 : (coF g.purp g.at_ (g.at_ + t.wait) su).isSome = true
                  · rw [if_pos c3] at h5
                    exact absurd rfl (h5.resolve_right c2)
                  · rw [if_neg c3, if_neg (by simp)]
            show (if (objF [g]).is = true then _ else allowF [g] t purp at_) = a
            rw [o1, if_neg (by simp), o2, hst, ha]
          · have hs2 : stateF su t g at_ = 2 := Classical.not_not.1 fun c => h5 (Or.inl c)
            have hw0 : t.wait ≠ 0 := fun c => h5 (Or.inr c)
            have hpe : purp = g.purp := (eqS_iff.1 hgw.2).symm
            have hns : ¬ (t.days ≠ 0 ∧ g.at_ + t.days * 1440 ≤ at_) := by
              intro c
              unfold stateF at hs2
              rw [if_pos c] at hs2
              omega
            have hco : (coF purp g.at_ (g.at_ + t.wait) su).isSome = true := by
              unfold stateF at hs2
              rw [if_neg hns, if_neg hw0] at hs2
              rw [hpe]
              cases hc : (coF g.purp g.at_ (g.at_ + t.wait) su).isSome with
              | true => rfl
              | false =>
                rw [hc, if_neg (by simp)] at hs2
                split at hs2 <;> omega
            obtain ⟨c, hc⟩ := Option.isSome_iff_exists.1 hco
            have hcm : c ∈ su := List.mem_of_find?_eq_some hc
            have hcb := List.find?_some hc
            have hcw : c.what = 2 := by
              unfold coB at hcb
              simp only [Bool.and_eq_true, decide_eq_true_eq] at hcb
              exact hcb.1.1
            have hne : g.no ≠ c.no := by
              intro e
              have := uniq_inj hu hgm hcm e
              rw [this] at hgw
              omega
            have hraw : prfRaw su t purp g.no = [g.no, c.no] := by
              unfold prfRaw
              rw [filter_one hu hgm]
              unfold coNo
              simp [hc]
            have hp : prfL su t purp a = ([g.no, c.no] : List Int).mergeSort fun x y => decide (x ≤ y) := by
              subst ha
              unfold prfL
              rw [if_neg (show ¬ g.no = 0 by omega), if_neg (by simpa using ⟨hs2, hw0⟩), hraw]
            refine ⟨⟨[g, c], by simpa using ⟨hgm, hcm⟩, Or.inr (Or.inr ⟨g, c, rfl, hne, hp⟩)⟩, ?_⟩
            have hcont : (su.filter fun d => (prfL su t purp a).contains d.no) = su.filter fun d => decide (d.no = g.no ∨ d.no = c.no) := by
              congr 1
              funext d
              rw [hp]
              have : (([g.no, c.no] : List Int).mergeSort fun x y => decide (x ≤ y)).contains d.no = ([g.no, c.no] : List Int).contains d.no := by
                rw [Bool.eq_iff_iff, List.contains_iff_mem, List.contains_iff_mem, List.mem_mergeSort]
              rw [this]
              simp
            rw [hcont]
            generalize hsu' : (su.filter fun d => decide (d.no = g.no ∨ d.no = c.no)) = su'
            have hmem : ∀ x, x ∈ su' ↔ x = g ∨ x = c := by
              intro x
              rw [← hsu', List.mem_filter]
              constructor
              · rintro ⟨hx, hd⟩
                simp at hd
                rcases hd with hd | hd
                · exact Or.inl (uniq_inj hu hx hgm hd)
                · exact Or.inr (uniq_inj hu hx hcm hd)
              · rintro (rfl | rfl)
                · exact ⟨hgm, by simp⟩
                · exact ⟨hcm, by simp⟩
            have hu' : Uniq su' := by rw [← hsu']; exact hu.filter _
            have hgr : grF purp su' = [g] := by
              have e2 : wdF purp su' = none := wd_not purp su' none fun y hy => by
                rcases (hmem y).1 hy with rfl | rfl
                · rw [hgw.1]; omega
                · rw [hcw]; omega
              unfold grF
              rw [e2]
              have hgu' : g ∈ su' := (hmem g).2 (Or.inl rfl)
              rw [← filter_one hu' hgu']
              apply List.filter_congr
              intro x hx
              rcases (hmem x).1 hx with rfl | rfl
              · unfold grB
                simp [hgw.1, hgw.2]
              · have : decide (x.no = g.no) = false := by simpa using fun e => hne e.symm
                rw [this]
                unfold grB
                simp [hcw]
            obtain ⟨o1, o2⟩ := grant_one (l := su') (g := g) (purp := purp) (t := t) (at_ := at_) (fun x hx => by
              rcases (hmem x).1 hx with rfl | rfl
              · exact Or.inl hgw.1
              · exact Or.inr hcw) hgr h3'
            have hst : stateF su' t g at_ = 2 := by
              unfold stateF
              rw [if_neg hns, if_neg hw0, if_pos]
              unfold coF
              rw [List.find?_isSome]
              exact ⟨c, (hmem c).2 (Or.inr rfl), by rw [← hpe]; exact hcb⟩
            show (if (objF su').is = true then _ else allowF su' t purp at_) = a
            rw [o1, if_neg (by simp), o2, hst, ha, hs2]
theorem proofs_suffice {ps : List PurD} {ss : List StD} {kind : Int} {text purp region : ByteArray} {ch at_ : Int} (h : allErr ps ss [⟨kind, text⟩] 1 purp region ch at_ = 0) :
    allErr ps (ss.filter fun d => (proofA ps ss kind text purp region ch at_).contains d.no) [⟨kind, text⟩] 1 purp region ch at_ = 0 ∧
    mayA ps (ss.filter fun d => (proofA ps ss kind text purp region ch at_).contains d.no) kind text purp region ch at_ = mayA ps ss kind text purp region ch at_ ∧
    (ss.filter fun d => (proofA ps ss kind text purp region ch at_).contains d.no).length = (proofA ps ss kind text purp region ch at_).length := by
  obtain ⟨r1, r2, r3⟩ := all_right h
  obtain ⟨s1, s2, s3, s4⟩ := (say_iff ps ss).1 r1
  have hu : Uniq ss := s3.imp fun h => by omega
  have he : allErr ps (ss.filter fun d => (proofA ps ss kind text purp region ch at_).contains d.no) [⟨kind, text⟩] 1 purp region ch at_ = 0 := by
    unfold allErr
    rw [say_sub r1 List.filter_sublist, r2, r3]
    rfl
  refine ⟨he, ?_⟩
  have hpa : proofA ps ss kind text purp region ch at_ = prfL (upTo (saidF ss kind text ch) at_) ((termF ps purp region ch).getD zeroTe) purp (askF ps ss kind text purp region ch at_) := by
    unfold proofA
    rw [if_neg (by simpa using h)]
  have hm1 : mayA ps ss kind text purp region ch at_ = askF ps ss kind text purp region ch at_ := by
    unfold mayA
    rw [if_neg (by simpa using h)]
  have hm2 : mayA ps (ss.filter fun d => (proofA ps ss kind text purp region ch at_).contains d.no) kind text purp region ch at_ = askF ps (ss.filter fun d => (proofA ps ss kind text purp region ch at_).contains d.no) kind text purp region ch at_ := by
    unfold mayA
    rw [if_neg (by simpa using he)]
  rw [hm1, hm2, hpa]
  have hsu : ∀ s ∈ upTo (saidF ss kind text ch) at_, s ∈ ss := by
    intro s hs
    have h1 := (List.takeWhile_sublist _).mem hs
    exact (List.mem_filter.1 ((isort_perm _ _).mem_iff.1 h1)).1
  have huu : Uniq (upTo (saidF ss kind text ch) at_) := by
    have h1 : Uniq (saidF ss kind text ch) := by
      unfold saidF Uniq
      rw [(isort_perm stLt (ss.filter (ownB kind text ch))).pairwise_iff (fun h => h.symm)]
      exact hu.filter _
    exact List.Pairwise.sublist (List.takeWhile_sublist _) h1
  cases ht : termF ps purp region ch with
  | none =>
    have e1 : ∀ l, askF ps l kind text purp region ch at_ = ⟨false, 3, 0⟩ := fun l => by
      unfold askF
      rw [ht]
      rfl
    rw [e1, e1]
    refine ⟨rfl, ?_⟩
    show (ss.filter fun d => ([] : List Int).contains d.no).length = 0
    simp
  | some t =>
    have e1 : ∀ l, askF ps l kind text purp region ch at_ = if (objF (upTo (saidF l kind text ch) at_)).is = true then ⟨false, 6, (objF (upTo (saidF l kind text ch) at_)).no⟩ else allowF (upTo (saidF l kind text ch) at_) t purp at_ := fun l => by
      unfold askF
      rw [ht]
      rfl
    obtain ⟨⟨pr, hpr, hcase⟩, hans⟩ := suffices_ huu (fun s hs => by have := stOne_vals (s4 s (hsu s hs)); omega) t purp at_ _ (e1 ss)
    simp only [Option.getD_some]
    constructor
    · rw [e1 (ss.filter _), said_cut, upTo_cut2 (saidF_at _ _ _ _)]
      exact hans
    · rcases hcase with ⟨rfl, hp⟩ | ⟨x, rfl, hp⟩ | ⟨x, y, rfl, hne, hp⟩
      · rw [hp]; simp
      · rw [hp]
        have hx := hsu x (hpr x (by simp))
        have : (ss.filter fun d => ([x.no] : List Int).contains d.no) = [x] := by
          rw [← filter_one hu hx]
          congr 1
          funext d
          simp [eq_comm]
        rw [this]; rfl
      · rw [hp]
        have hx := hsu x (hpr x (by simp))
        have hy := hsu y (hpr y (by simp))
        have : (ss.filter fun d => (([x.no, y.no] : List Int).mergeSort fun x y => decide (x ≤ y)).contains d.no) = ss.filter fun d => decide (d.no = x.no ∨ d.no = y.no) := by
          congr 1
          funext d
          have : (([x.no, y.no] : List Int).mergeSort fun x y => decide (x ≤ y)).contains d.no = ([x.no, y.no] : List Int).contains d.no := by
            rw [Bool.eq_iff_iff, List.contains_iff_mem, List.contains_iff_mem, List.mem_mergeSort]
          rw [this]
          simp
        rw [this, filter_two_len hne, filter_one hu hx, filter_one hu hy, List.length_mergeSort]
        rfl
end Go.Proofs.YtmlpfbffecdepaaGreatDoor
