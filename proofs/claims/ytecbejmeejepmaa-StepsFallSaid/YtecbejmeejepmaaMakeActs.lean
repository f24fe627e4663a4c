/- What a stream makes: what people did with letters. -/
import Derived.Test.YtecbejmeejepmaaMakeSent
import Derived.Test.YtecbejmeejepmaaSteps
import Derived.Test.YtecbejmeejepmaaConcW
import Derived.Deep.CutBlock
import Derived.Deep.DeepCutAuto
namespace Go.Proofs.Ytecbejmeejepmaa
set_option linter.unusedVariables false
open Go.RowKit
theorem infoAct : (Try.prog.info? 47).map (fun i => (i.zero, i.size, i.bytes)) = some (some (.agg #[.string ⟨#[]⟩, .int .i64 0, .int .i64 0]), 3, 32) := by kernel_rfl
theorem SzA.snoc {ds : List ActD} (h : SzA ds) {d : ActD} (hd : d.sent.size ≤ 1000 ∧ -10000000 ≤ d.kind ∧ d.kind ≤ 10000000 ∧ -10000000 ≤ d.at_ ∧ d.at_ ≤ 20000000) : SzA (ds ++ [d]) := by
  intro y hy
  rcases List.mem_append.1 hy with hy | hy
  · exact h y hy
  · simp at hy; rw [hy]; exact hd
def BdA (d : ActD) : Prop := d.sent.size ≤ 1000 ∧ -10000000 ≤ d.kind ∧ d.kind ≤ 10000000 ∧ -10000000 ≤ d.at_ ∧ d.at_ ≤ 20000000
theorem grown_set' (W : World) (p : Addr) (v : Value) : W.grownBy (W.setCell p v) (some p.block) :=
  ⟨rfl, rfl, rfl, by simp [World.setCell], fun b _ hne => Below.heap_setCell W p v b (fun e => hne (by rw [e]))⟩
/-- A block that is not the stream's. -/
def AtB (bs : Nat) (w : World) (g : Nat) (o : Obj) : Prop := g ≠ bs ∧ w.heap[g]? = some o
theorem AtB.keep {bs : Nat} {w w' : World} {g : Nat} {o : Obj} (h : AtB bs w g o) (e : w.grownBy w' (some bs)) : AtB bs w' g o :=
  ⟨h.1, (e.block g (lt_of_heap h.2) (fun c => h.1 (by injection c))).trans h.2⟩
theorem AtB.new {bs : Nat} {w : World} (o : Obj) (h : bs < w.heap.size) : AtB bs (w.alloc o) w.heap.size o := ⟨by omega, heap_at rfl⟩
theorem slotOf {a : Act} {s : Nat} {v : Value} (h : a.tmps.getD s undef = v) : a.tmps[s]?.getD undef = v := by rw [← h, Array.getD_eq_getD_getElem?]
abbrev RMA := RM (D := ActD) 47 3 fA
def actO (a : ActD) : Obj := .cells #[.string a.sent, .int .i64 a.kind, .int .i64 a.at_] 47 (0, 0)
def sentO (x : SentD) : Obj := .cells #[.string x.id, .string x.person, .string x.letter, .int .i64 x.at_] 42 (0, 0)
/-- A row in the making, and an act in the making. -/
structure AM (w : World) (bs K : Nat) (H : Frz) (B : Nat) (v : Value) (ds : List ActD) (ab : Nat) (a : ActD) (wr : World) : Prop where
  rm : RMA w bs K H B v ds wr
  blk : wr.heap[ab]? = some (actO a)
  ne : bs < ab
  hn : H ab = none
  own : v.ownBlock ≠ some ab
section
variable {w wr W' : World} {bs K K' B ab : Nat} {H : Frz} {v : Value} {ds : List ActD} {a : ActD}
theorem AM.lw (h : AM w bs K H B v ds ab a wr) : Lw w bs K H wr := h.rm.lw
theorem AM.more (h : AM w bs K H B v ds ab a wr) (hK : K ≤ K') : AM w bs K' H B v ds ab a wr := ⟨h.rm.more hK, h.blk, h.ne, h.hn, h.own⟩
theorem AM.call (h : AM w bs K H B v ds ab a wr) (hb : Below wr.heap.size wr W') : AM w bs K H B v ds ab a W' := ⟨h.rm.call hb, (hb.block ab (lt_of_heap h.blk)).trans h.blk, h.ne, h.hn, h.own⟩
theorem AM.alloc (h : AM w bs K H B v ds ab a wr) (o : Obj) : AM w bs K H B v ds ab a (wr.alloc o) := h.call ((Below.refl _ _).alloc (Nat.le_refl _) _)
theorem AM.asked (h : AM w bs K H B v ds ab a wr) (L : Lw w bs K' H W') (g : wr.grownBy W' (some bs)) : AM w bs K' H B v ds ab a W' :=
  ⟨h.rm.asked L g, (g.block ab (lt_of_heap h.blk) (fun e => by injection e with e; have := h.ne; omega)).trans h.blk, h.ne, h.hn, h.own⟩
theorem AM.new (h : RMA w bs K H B v ds wr) (a : ActD) : AM w bs K H B v ds wr.heap.size a (wr.alloc (.cells #[.string a.sent, .int .i64 a.kind, .int .i64 a.at_] 47)) :=
  ⟨h.alloc _, heap_at rfl, h.lw.lt, h.lw.fin.none_ (Nat.le_refl _), fun e => by have := (h.row.lt e).2; omega⟩
theorem AM.set (h : AM w bs K H B v ds ab a wr) (j : Nat) (x : Value) (a' : ActD) (he : (wr.setCell ⟨ab, j, none⟩ x).heap[ab]? = some (actO a')) : AM w bs K H B v ds ab a' (wr.setCell ⟨ab, j, none⟩ x) := by
  have hr := h.rm
  refine ⟨⟨hr.1.setCell (p := ⟨ab, j, none⟩) h.ne h.hn x, hr.2.1.kept (grown_set' wr ⟨ab, j, none⟩ x) (Or.inr h.own), hr.2.2.1, hr.2.2.2.1, by have := hr.2.2.2.2; simpa [World.setCell] using this⟩, he, h.ne, h.hn, h.own⟩
theorem AM.set0 (h : AM w bs K H B v ds ab a wr) (s : ByteArray) : AM w bs K H B v ds ab { a with sent := s } (wr.setCell ⟨ab, 0, none⟩ (.string s)) := h.set 0 _ _ (by simp [World.setCell, Array.getElem?_modify, h.blk, actO])
theorem AM.set1 (h : AM w bs K H B v ds ab a wr) (n : Int) : AM w bs K H B v ds ab { a with kind := n } (wr.setCell ⟨ab, 1, none⟩ (.int .i64 n)) := h.set 1 _ _ (by simp [World.setCell, Array.getElem?_modify, h.blk, actO])
theorem AM.set2 (h : AM w bs K H B v ds ab a wr) (n : Int) : AM w bs K H B v ds ab { a with at_ := n } (wr.setCell ⟨ab, 2, none⟩ (.int .i64 n)) := h.set 2 _ _ (by simp [World.setCell, Array.getElem?_modify, h.blk, actO])
theorem AM.cells (h : AM w bs K H B v ds ab a wr) : wr.cell? ⟨ab, 0, none⟩ = some (.string a.sent) ∧ wr.cell? ⟨ab, 1, none⟩ = some (.int .i64 a.kind) ∧ wr.cell? ⟨ab, 2, none⟩ = some (.int .i64 a.at_) ∧ ∀ j, wr.frozen? ⟨ab, j, none⟩ = false := by
  have := h.blk
  refine ⟨by simp [World.cell?, this, actO], by simp [World.cell?, this, actO], by simp [World.cell?, this, actO], fun j => by simp [World.frozen?, this, actO]⟩
end
/-- What stays while the line that takes an act from a letter runs. -/
def E7 (bs ab : Nat) (a1 : ActD) (w w' : World) : Prop := (∀ b, b < w.heap.size → b ≠ bs → b ≠ ab → w'.heap[b]? = w.heap[b]?) ∧ (w.heap[ab]? = some (actO a1) → w'.heap[ab]? = some (actO a1))
theorem E7.refl (bs ab : Nat) (a1 : ActD) (w : World) : E7 bs ab a1 w w := ⟨fun _ _ _ _ => rfl, id⟩
theorem E7.grown {bs ab : Nat} {a1 : ActD} {w w' : World} (h : w.grownBy w' (some bs)) (hne : bs < ab) : E7 bs ab a1 w w' :=
  ⟨fun b hb h1 _ => h.block b hb (fun e => by injection e with e; exact h1 e), fun e => (h.block ab (lt_of_heap e) (fun c => by injection c; omega)).trans e⟩
/-- What its operations leave. -/
def φ7 (bs xb ab : Nat) (x : SentD) (a1 : ActD) : Nat → Value → World → Prop
  | 0, u, _ => u = .pointer (some ⟨xb, 0, none⟩)
  | 1, u, _ => u = .string x.id
  | 2, u, _ => u = .pointer (some ⟨xb, 3, none⟩)
  | 3, u, _ => u = .int .i64 x.at_
  | 4, u, _ => u = .pointer (some ⟨bs, 0, none⟩)
  | 5, u, w => ∃ g, u = .slice (some ⟨g, 0, none⟩) 4 4 ∧ g ≠ ab ∧ AtB bs w g (.cells #[.int .i64 0, .int .i64 1, .int .i64 50, .int .i64 200] 3 (0, 0))
  | 6, u, _ => ∃ z : Int, u = .int .i64 z ∧ 0 ≤ z ∧ z ≤ 200
  | 7, u, _ => ∃ z : Int, u = .int .i64 (x.at_ + z) ∧ 0 ≤ z ∧ z ≤ 200
  | 8, u, _ => u = .pointer (some ⟨ab, 0, none⟩)
  | 9, _, w => w.heap[ab]? = some (actO a1)
  | 10, u, _ => u = .pointer (some ⟨ab, 2, none⟩)
  | _, _, _ => True
theorem φ7_mono {bs xb ab : Nat} {x : SentD} {a1 : ActD} (i : Nat) (u : Value) (w w' : World) (hi : i < 11) (e : E7 bs ab a1 w w') (h : φ7 bs xb ab x a1 i u w) : φ7 bs xb ab x a1 i u w' := by
  match i, hi, h with
  | 0, _, h => exact h
  | 1, _, h => exact h
  | 2, _, h => exact h
  | 3, _, h => exact h
  | 4, _, h => exact h
  | 5, _, ⟨g, h1, h2, h3⟩ => exact ⟨g, h1, h2, h3.1, (e.1 g (lt_of_heap h3.2) h3.1 h2).trans h3.2⟩
  | 6, _, h => exact h
  | 7, _, h => exact h
  | 8, _, h => exact h
  | 9, _, h => exact e.2 h
  | 10, _, h => exact h
def J7 (w : World) (bs K : Nat) (H : Frz) (B : Nat) (v : Value) (ds : List ActD) (ab : Nat) (a0 : ActD) (xb : Nat) (x : SentD) (W' : World) : Prop := (∃ a', (a' = a0 ∨ a' = { a0 with sent := x.id }) ∧ AM w bs K H B v ds ab a' W') ∧ AtB bs W' xb (sentO x)
def ActPost (w : World) (bs K : Nat) (H : Frz) (B : Nat) (e : Ending) (W' : World) : Prop := ∃ v ds, e = .returned v ∧ RMA w bs (K + 300) H B v ds W' ∧ ds.length ≤ 9 ∧ SzA ds
set_option maxHeartbeats 8000000 in
set_option maxRecDepth 100000 in
theorem Lw.acts {w W : World} {bs K : Nat} {H : Frz} (h : Lw w bs K H W) (hK : K ≤ 1000000) (A : Option Addr) (cap : Nat) (ss : List SentD) (hR : Rw H A 4 fSe ss) (hsz : SzS ss) (hl : ss.length ≤ 1000) (hcap : ss.length ≤ cap) :
    Calls Try.prog 5 #[.pointer (some ⟨bs, 0, none⟩), .slice A ss.length cap] W (ActPost w bs K H W.heap.size) := by
  obtain ⟨i0, hi0, hz0, hz1, hz2⟩ := info_parts infoAct
  have hbs := h.lt
  have C0 := Lib.hid (RM.new (T := 47) (k := 3) (f := fA) h)
  have HR := Lib.hid hR
  have HS := Lib.hid hsz
  clear h hR hsz
  go_enter Try.func5, Try.ntmps5
  go_wp2_with fail
  refine (C0.out.lw.next' 10 (by omega) (by omega) (by omega)).mono ?_
  rintro e W1 ⟨r, rfl, r0, r1, Lq, gq, -⟩
  have C1 := Lib.hid (C0.out.asked Lq gq)
  clear Lq gq C0
  obtain ⟨r, rfl⟩ := Int.eq_ofNat_of_zero_le r0
  go_wp2_with fail
  go_loopw [5, 10] (fun v t wr => ∃ (i : Nat) (ds : List ActD), i ≤ r ∧ t = .int .i64 i ∧ Hid (RMA w bs (K + 1 + 30 * i) H W.heap.size v ds wr) ∧ ds.length ≤ i ∧ SzA ds) (fun _ t _ => r - (intOf t).toNat)
  case atStart => exact ⟨0, [], by omega, rfl, C1, by simp, (by intro d hd; cases hd)⟩
  case round =>
    obtain ⟨i, ds, hi, rfl, C, hdl, hsz⟩ := hrel
    clear C1
    have HSZ := Lib.hid hsz
    clear hsz
    by_cases hlt : i < r
    · skip
      have hne := C.out.lw.lt
      have hSt : StrsW (wr.alloc (.cells #[.string ⟨#[115, 97]⟩, .string ⟨#[115, 98]⟩] 9)) (some ⟨wr.heap.size, 0, none⟩) [⟨#[115, 97]⟩, ⟨#[115, 98]⟩] := StrsW.of_row (heap_at rfl) rfl
      have HSt := Lib.hid hSt
      clear hSt
      go_wp2_with fail
      refine ((C.out.alloc _).lw.key _ _ [⟨#[115, 97]⟩, ⟨#[115, 98]⟩] HSt.out (fun b off e => by injection e with e; injection e with e1 e2; omega) (by simp) (by simp) (fun s h => size1 h (by decide)) (by omega)).mono ?_
      rintro e W2 ⟨ke, rfl, hke, Lq, gq⟩
      have C2 := Lib.hid ((C.out.alloc _).asked Lq gq)
      clear Lq gq HSt hne C
      go_wp2_with fail
      refine (C2.out.lw.range 1 4 (by omega) (by omega) (by omega) (by omega)).mono ?_
      rintro e W3 ⟨kd, rfl, kd0, kd1, Lq, gq, -⟩
      have C3 := Lib.hid (C2.out.asked Lq gq)
      clear Lq gq C2
      go_wp2_with fail
      refine (C3.out.lw.next' 600 (by omega) (by omega) (by omega)).mono ?_
      rintro e W4 ⟨tm, rfl, tm0, tm1, Lq, gq, -⟩
      have C4 := Lib.hid (C3.out.asked Lq gq)
      clear Lq gq C3
      have A5 := Lib.hid (AM.new C4.out ⟨ke, kd, tm⟩)
      have HBA : Hid (BdA ⟨ke, kd, tm⟩) := ⟨hke, by show -10000000 ≤ kd; omega, by show kd ≤ 10000000; omega, by show -10000000 ≤ tm; omega, by show tm ≤ 20000000; omega⟩
      clear C4
      go_upto_region 5 with (fail)
      generalize hab : W4.heap.size = ab at A5
      generalize W4.alloc _ = W5 at A5
      generalize (⟨ke, kd, tm⟩ : ActD) = a0 at A5 HBA
      clear hab
      go_cut [27] (fun s27 wx => ∃ b : Bool, s27 = .bool b ∧ (b = true → ss ≠ []) ∧ Hid (AM w bs (K + 1 + 30 * i + 5) H W.heap.size u5 ds ab a0 wx))
      case first =>
        by_cases hse : ss = []
        · have hz : ss.length = 0 := by rw [hse]; rfl
          have hd0 : decide ((0 : Int) < ss.length) = false := by simp; omega
          have hd1 : decide (0 < ss.length) = false := by simp; omega
          have HSE := Lib.hid hse
          clear hse hz
          go_wp2_with fail
          go_meet
          exact ⟨false, rfl, (fun c => by cases c), A5.out.more (by omega)⟩
        · have hpos : 0 < ss.length := List.length_pos_iff.2 hse
          have hd0 : decide ((0 : Int) < ss.length) = true := by simp; omega
          have HSE := Lib.hid hse
          clear hse
          go_wp2_with fail
          refine (A5.out.lw.flip 15 (by omega) (by omega)).mono ?_
          rintro e W6 ⟨fl, rfl, Lq, gq, -⟩
          have A6 := Lib.hid (A5.out.asked Lq gq)
          clear Lq gq A5
          have HA7 : Hid (AM w bs (K + 1 + 30 * i + 5) H W.heap.size u5 ds ab a0 W6) := A6.out.more (by omega)
          go_wp2_with fail
          go_meet
          exact ⟨!fl, rfl, (fun _ => HSE.out), HA7⟩
      case rest =>
        obtain ⟨b, rfl, hbne, A6⟩ := hcut
        have HBNE := Lib.hid hbne
        clear hbne A5
        go_upto_if 27 with (fail)
        go_cut [7] (fun s7 wx => ∃ a : ActD, BdA a ∧ Hid (AM w bs (K + 1 + 30 * i + 20) H W.heap.size u5 ds ab a wx))
        case first =>
          cases b with
          | false =>
            go_wp2_with fail
            go_meet
            exact ⟨a0, HBA.out, A6.out.more (by omega)⟩
          | true =>
            have hpos : 0 < ss.length := List.length_pos_iff.2 (HBNE.out rfl)
            have hp2 : (0 : Int) < ss.length := by omega
            go_wp2_with fail
            refine (A6.out.lw.next' _ (by omega) (by omega) (by omega)).mono ?_
            rintro e W7 ⟨p, rfl, p0, p1, Lq, gq, -⟩
            have A7 := Lib.hid (A6.out.asked Lq gq)
            clear Lq gq A6
            obtain ⟨p, rfl⟩ := Int.eq_ofNat_of_zero_le p0
            have hpl : p < ss.length := by omega
            obtain ⟨b, off, hA, hbl, hc⟩ := HR.out.at_ A7.out.lw.fin hpl (by omega)
            subst hA
            have c0 : W7.cell? ⟨b, off + p * 4, none⟩ = some (.string ss[p].id) := hc 0 (by omega)
            have c1 : W7.cell? ⟨b, off + p * 4 + 1, none⟩ = some (.string ss[p].person) := hc 1 (by omega)
            have c2 : W7.cell? ⟨b, off + p * 4 + 2, none⟩ = some (.string ss[p].letter) := hc 2 (by omega)
            have c3 : W7.cell? ⟨b, off + p * 4 + 3, none⟩ = some (.int .i64 ss[p].at_) := hc 3 (by omega)
            have hkp := HS.out _ (List.getElem_mem hpl)
            clear hc
            generalize ss[p] = x at c0 c1 c2 c3 hkp
            have A8 := Lib.hid (A7.out.alloc (.cells #[.string x.id, .string x.person, .string x.letter, .int .i64 x.at_] 42))
            have X8 : Hid (AtB bs (W7.alloc (.cells #[.string x.id, .string x.person, .string x.letter, .int .i64 x.at_] 42)) W7.heap.size (sentO x)) := AtB.new _ A7.out.lw.lt
            clear A7
            go_upto_region 7 with (fail)
            clear c0 c1 c2 c3
            generalize hxb : W7.heap.size = xb at X8
            generalize W7.alloc _ = W8 at A8 X8
            clear hxb
            have hxab : xb ≠ ab := by
              intro e
              have h1 := X8.out.2
              rw [e, A8.out.blk] at h1
              simp [actO, sentO] at h1
            refine wp_region_concW 11 63 (φ7 bs xb ab x { a0 with sent := x.id }) (fun n W' => J7 w bs (K + 1 + 30 * i + 5 + 1 + n) H W.heap.size u5 ds ab a0 xb x W') (E7 bs ab { a0 with sent := x.id }) (by kernel_rfl) (by kernel_rfl) (by rfl) ⟨⟨a0, Or.inl rfl, A8.out.call (Below.refl _ _).drew⟩, X8.out⟩ φ7_mono ?_ ?_ ?_
            · intro i x w hi hd h
              have hcs : i = 0 ∨ i = 1 ∨ i = 2 ∨ i = 3 ∨ i = 4 ∨ i = 5 ∨ i = 6 ∨ i = 7 ∨ i = 8 ∨ i = 9 ∨ i = 10 := by omega
              rcases hcs with rfl | rfl | rfl | rfl | rfl | rfl | rfl | rfl | rfl | rfl | rfl
              · cases hd
              · cases hd
              · cases hd
              · cases hd
              · cases hd
              · cases hd
              · cases hd
              · cases hd
              · cases hd
              · exact h
              · cases hd
            · intro n o hn ho a W2 kk hkk hJ hkn
              obtain ⟨⟨a', ha', hA⟩, hX⟩ := hJ
              have hcs : n = 0 ∨ n = 1 ∨ n = 2 ∨ n = 3 ∨ n = 4 ∨ n = 5 ∨ n = 6 ∨ n = 7 ∨ n = 8 ∨ n = 9 ∨ n = 10 := by omega
              have x0 : W2.cell? ⟨xb, 0, none⟩ = some (.string x.id) := by simp [World.cell?, hX.2, sentO]
              have x3 : W2.cell? ⟨xb, 3, none⟩ = some (.int .i64 x.at_) := by simp [World.cell?, hX.2, sentO]
              have hJ2 : J7 w bs (K + 1 + 30 * i + 5 + 1 + (kk + 1)) H W.heap.size u5 ds ab a0 xb x W2 := ⟨⟨a', ha', hA.more (by omega)⟩, hX⟩
              rcases hcs with rfl | rfl | rfl | rfl | rfl | rfl | rfl | rfl | rfl | rfl | rfl
              · obtain rfl := Option.some.inj ho
                have h1 := slotOf (hkn 7 (by decide) : a.tmps.getD 7 undef = .pointer (some ⟨xb, 0, none⟩))
                clear hkn ho
                simp only [OpV, execOp]
                simp [go_sem, h1]
                exact ⟨rfl, hJ2, E7.refl _ _ _ _⟩
              · obtain rfl := Option.some.inj ho
                have h1 := slotOf (hkn 35 (by decide) : a.tmps.getD 35 undef = .pointer (some ⟨xb, 0, none⟩))
                clear hkn ho
                simp only [OpV, execOp]
                simp [go_sem, h1, x0]
                exact ⟨rfl, hJ2, E7.refl _ _ _ _⟩
              · obtain rfl := Option.some.inj ho
                have h1 := slotOf (hkn 7 (by decide) : a.tmps.getD 7 undef = .pointer (some ⟨xb, 0, none⟩))
                clear hkn ho
                simp only [OpV, execOp]
                simp [go_sem, h1]
                exact ⟨rfl, hJ2, E7.refl _ _ _ _⟩
              · obtain rfl := Option.some.inj ho
                have h1 := slotOf (hkn 37 (by decide) : a.tmps.getD 37 undef = .pointer (some ⟨xb, 3, none⟩))
                clear hkn ho
                simp only [OpV, execOp]
                simp [go_sem, h1, x3]
                exact ⟨rfl, hJ2, E7.refl _ _ _ _⟩
              · obtain rfl := Option.some.inj ho
                exact ⟨hkn 0 (by decide), hJ2, E7.refl _ _ _ _⟩
              · obtain rfl := Option.some.inj ho
                have hlt2 := lt_of_heap hA.blk
                clear hkn ho
                simp only [OpV, execOp]
                simp [go_sem]
                exact ⟨⟨W2.heap.size, rfl, by omega, AtB.new _ hA.lw.lt⟩, ⟨⟨a', ha', (hA.more (by omega)).alloc _⟩, hX.keep (grown_alloc' _ _)⟩, E7.grown (grown_alloc' _ _) hA.ne⟩
              · obtain rfl := Option.some.inj ho
                have h1 := slotOf (hkn 39 (by decide) : a.tmps.getD 39 undef = .pointer (some ⟨bs, 0, none⟩))
                obtain ⟨g, h2, h4, h3⟩ : ∃ g, a.tmps.getD 40 undef = .slice (some ⟨g, 0, none⟩) 4 4 ∧ g ≠ ab ∧ AtB bs W2 g (.cells #[.int .i64 0, .int .i64 1, .int .i64 50, .int .i64 200] 3 (0, 0)) := hkn 40 (by decide)
                replace h2 := slotOf h2
                clear hkn ho
                simp only [OpV, execOp]
                simp [go_sem, h1, h2]
                exact (hA.lw.pick (some ⟨g, 0, none⟩) 4 [0, 1, 50, 200] (Ints.of_row h3.2 rfl) (fun b off e => by injection e with e; injection e with e1 e2; rw [← e1]; exact h3.1) (by simp) (by simp) (by omega)).mono fun e w'' ⟨z, he, hz, L', g', hz'⟩ => ⟨_, he, ⟨z, rfl, by simp at hz; omega, by simp at hz; omega⟩, ⟨⟨a', ha', hA.asked L' g'⟩, hX.keep g'⟩, E7.grown g' hA.ne⟩
              · obtain rfl := Option.some.inj ho
                have h1 := slotOf (hkn 38 (by decide) : a.tmps.getD 38 undef = .int .i64 x.at_)
                obtain ⟨z, h2, z0, z1⟩ : ∃ z : Int, a.tmps.getD 41 undef = .int .i64 z ∧ 0 ≤ z ∧ z ≤ 200 := hkn 41 (by decide)
                replace h2 := slotOf h2
                have hwr : IntKind.i64.wrap (x.at_ + z) = x.at_ + z := IntWalk.i64_in _ (by omega)
                clear hkn ho
                simp only [OpV, execOp]
                simp [go_sem, h1, h2, hwr]
                exact ⟨⟨z, rfl, z0, z1⟩, hJ2, E7.refl _ _ _ _⟩
              · obtain rfl := Option.some.inj ho
                have h1 := slotOf (hkn 6 (by decide) : a.tmps.getD 6 undef = .pointer (some ⟨ab, 0, none⟩))
                clear hkn ho
                simp only [OpV, execOp]
                simp [go_sem, h1]
                exact ⟨rfl, hJ2, E7.refl _ _ _ _⟩
              · obtain rfl := Option.some.inj ho
                have h1 := slotOf (hkn 43 (by decide) : a.tmps.getD 43 undef = .pointer (some ⟨ab, 0, none⟩))
                have h2 := slotOf (hkn 36 (by decide) : a.tmps.getD 36 undef = .string x.id)
                obtain ⟨cc0, _, _, cf⟩ := hA.cells
                have cf0 := cf 0
                have hset := hA.set0 x.id
                have he : ({ a' with sent := x.id } : ActD) = { a0 with sent := x.id } := by
                  rcases ha' with rfl | rfl <;> rfl
                rw [he] at hset
                clear hkn ho cf
                simp only [OpV, execOp]
                simp [go_sem, h1, h2, cc0, cf0]
                refine ⟨hset.blk, ⟨⟨_, Or.inr rfl, hset.more (by omega)⟩, hX.1, (Below.heap_setCell W2 _ _ xb (fun e => hxab e)).trans hX.2⟩, ?_, fun _ => hset.blk⟩
                intro b _ _ hb
                exact Below.heap_setCell W2 _ _ b (fun e => hb e)
              · obtain rfl := Option.some.inj ho
                have h1 := slotOf (hkn 6 (by decide) : a.tmps.getD 6 undef = .pointer (some ⟨ab, 0, none⟩))
                clear hkn ho
                simp only [OpV, execOp]
                simp [go_sem, h1]
                exact ⟨rfl, hJ2, E7.refl _ _ _ _⟩
            · intro u W9 hJ hφ
              have e10 : u 10 = .pointer (some ⟨ab, 2, none⟩) := (hφ 10 (by omega)).elim (fun h => h) (fun h => by cases h.1)
              obtain ⟨z, e7, z0, z1⟩ : ∃ z : Int, u 7 = .int .i64 (x.at_ + z) ∧ 0 ≤ z ∧ z ≤ 200 := (hφ 7 (by omega)).elim (fun h => h) (fun h => by cases h.1)
              have h9 : W9.heap[ab]? = some (actO { a0 with sent := x.id }) := (hφ 9 (by omega)).elim (fun h => h) (fun h => h.2)
              obtain ⟨⟨a', _, hA⟩, _⟩ := hJ
              have hA1 : AM w bs (K + 1 + 30 * i + 5 + 1 + 11) H W.heap.size u5 ds ab { a0 with sent := x.id } W9 := ⟨hA.rm, h9, hA.ne, hA.hn, hA.own⟩
              obtain ⟨_, _, cc2, cf⟩ := hA1.cells
              have cf2 := cf 2
              have HA2 := Lib.hid (hA1.set2 (x.at_ + z))
              have HBD : Hid (BdA { { a0 with sent := x.id } with at_ := x.at_ + z }) := ⟨hkp.1, HBA.out.2.1, HBA.out.2.2.1, by show -10000000 ≤ x.at_ + z; omega, by show x.at_ + z ≤ 20000000; omega⟩
              clear hφ hA hA1 h9 cf
              simp only [List.take_succ_cons, List.take_zero, List.drop_succ_cons, List.drop_zero, putAll, Nat.reduceAdd]
              rw [e10, e7]
              go_wp2_with fail
              go_meet
              exact ⟨_, HBD.out, HA2.out.more (by omega)⟩
        case rest =>
          obtain ⟨a, hbd, A7⟩ := hcut
          have HBD := Lib.hid hbd
          clear hbd A6
          go_wp2_with fail
          refine (A7.out.lw.flip 30 (by omega) (by omega)).mono ?_
          rintro e W8 ⟨f1, rfl, Lq, gq, -⟩
          have A8 := Lib.hid (A7.out.asked Lq gq)
          clear Lq gq A7
          go_upto_if 46 with (fail)
          go_cut [49] (fun s49 wx => ∃ a : ActD, BdA a ∧ Hid (AM w bs (K + 1 + 30 * i + 22) H W.heap.size u5 ds ab a wx))
          case first =>
            cases f1 with
            | false =>
              go_wp2_with fail
              go_meet
              exact ⟨a, HBD.out, A8.out.more (by omega)⟩
            | true =>
              skip
              have hne := A8.out.lw.lt
              have hIn : Ints (W8.alloc (.cells #[.int .i64 0, .int .i64 5] 3)) (some ⟨W8.heap.size, 0, none⟩) [0, 5] := Ints.of_row (heap_at rfl) rfl
              have HIn := Lib.hid hIn
              clear hIn
              go_wp2_with fail
              refine ((A8.out.alloc _).lw.pick _ _ [0, 5] HIn.out (fun b off e => by injection e with e; injection e with e1 e2; omega) (by simp) (by simp) (by omega)).mono ?_
              rintro e W9 ⟨z, rfl, hz, Lq, gq, -⟩
              have A9 := Lib.hid ((A8.out.alloc _).asked Lq gq)
              clear Lq gq HIn hne A8
              have hz2 : 0 ≤ z ∧ z ≤ 5 := by simp at hz; omega
              have HA2 := Lib.hid (A9.out.set1 z)
              have HB2 : Hid (BdA { a with kind := z }) := ⟨HBD.out.1, by show -10000000 ≤ z; omega, by show z ≤ 10000000; omega, HBD.out.2.2.2⟩
              obtain ⟨cc0, cc1, cc2, cf⟩ := A9.out.cells
              have cf1 := cf 1
              have cf2 := cf 2
              clear cf
              clear hz
              go_wp2_with fail
              go_meet
              exact ⟨_, HB2.out, HA2.out.more (by omega)⟩
          case rest =>
            obtain ⟨a1, hbd, A9⟩ := hcut
            have HBD1 := Lib.hid hbd
            clear hbd A8
            go_wp2_with fail
            refine (A9.out.lw.flip 30 (by omega) (by omega)).mono ?_
            rintro e W10 ⟨f2, rfl, Lq, gq, -⟩
            have A10 := Lib.hid (A9.out.asked Lq gq)
            clear Lq gq A9
            go_upto_if 52 with (fail)
            go_cut [55] (fun s55 wx => ∃ a : ActD, BdA a ∧ Hid (AM w bs (K + 1 + 30 * i + 25) H W.heap.size u5 ds ab a wx))
            case first =>
              cases f2 with
              | false =>
                go_wp2_with fail
                go_meet
                exact ⟨a1, HBD1.out, A10.out.more (by omega)⟩
              | true =>
                skip
                have hne := A10.out.lw.lt
                have hIn : Ints (W10.alloc (.cells #[.int .i64 (-1), .int .i64 4321440] 3)) (some ⟨W10.heap.size, 0, none⟩) [-1, 4321440] := Ints.of_row (heap_at rfl) rfl
                have HIn := Lib.hid hIn
                clear hIn
                go_wp2_with fail
                refine ((A10.out.alloc _).lw.pick _ _ [-1, 4321440] HIn.out (fun b off e => by injection e with e; injection e with e1 e2; omega) (by simp) (by simp) (by omega)).mono ?_
                rintro e W11 ⟨z, rfl, hz, Lq, gq, -⟩
                have A11 := Lib.hid ((A10.out.alloc _).asked Lq gq)
                clear Lq gq HIn hne A10
                have hz2 : -1 ≤ z ∧ z ≤ 4321440 := by simp at hz; omega
                have HA2 := Lib.hid (A11.out.set2 z)
                have HB2 : Hid (BdA { a1 with at_ := z }) := ⟨HBD1.out.1, HBD1.out.2.1, HBD1.out.2.2.1, by show -10000000 ≤ z; omega, by show z ≤ 20000000; omega⟩
                obtain ⟨cc0, cc1, cc2, cf⟩ := A11.out.cells
                have cf1 := cf 1
                have cf2 := cf 2
                clear cf
                clear hz
                go_wp2_with fail
                go_meet
                exact ⟨_, HB2.out, HA2.out.more (by omega)⟩
            case rest =>
              obtain ⟨a2, hbd, A12⟩ := hcut
              have HBD2 := Lib.hid hbd
              clear hbd A10
              have C9 := Lib.hid A12.out.rm
              obtain ⟨cc0, cc1, cc2, cf⟩ := A12.out.cells
              have cf1 := cf 1
              have cf2 := cf 2
              clear cf
              have HOr := Lib.hid C9.out.row
              have HST := Lib.hid (fun v' W' o g1 at1 => C9.out.app (v' := v') (W' := W') (ds' := ds ++ [a2]) o g1 at1)
              have hB9 := C9.out.2.2.2.2
              go_wp2_with (at_builtin; refine wpList_app_at rfl _ _ 28 rfl W.heap.size 47 i0 (.agg #[.string ⟨#[]⟩, .int .i64 0, .int .i64 0]) 3 32 Try.underlying28 hi0 hz0 hz1 hz2 rfl (by decide) fA _ ds rfl HOr.out a2 #[.string a2.sent, .int .i64 a2.kind, .int .i64 a2.at_] 47 rfl rfl (by simp [Value.oneCell']) (by omega) (by omega) hB9 ?_; intro v1 w2 o1 g1 b1 at1; have CA := Lib.hid (HST.out _ _ o1 g1 at1); clear o1 g1 b1 at1 HST HOr C9 cc0 cc1 cc2 cf1 cf2)
              go_roundw
              case rel => exact ⟨i + 1, _, by omega, by go_num, CA.out.more (by omega), by simp; omega, HSZ.out.snoc HBD2.out⟩
              case measure => simp [intOf]; omega
    · have hie : i = r := by omega
      subst hie
      go_wp2_with fail
      go_ret
      exact ⟨_, ds, rfl, C.out.more (by omega), by omega, HSZ.out⟩
end Go.Proofs.Ytecbejmeejepmaa
