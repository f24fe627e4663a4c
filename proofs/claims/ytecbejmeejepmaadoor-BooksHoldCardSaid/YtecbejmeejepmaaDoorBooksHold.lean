/- The law BooksHold returns true, whatever its numbers. -/
import Derived.Test.YtecbejmeejepmaaDoorBook5
import Derived.Test.YtecbejmeejepmaaDoorOffers
import Derived.Deep.CutBlock
import Derived.Deep.DeepCutAuto
namespace Go.Proofs.YtecbejmeejepmaaDoor
set_option linter.unusedVariables false
open Go.RowKit
/-- The law's state: the stream, the book. -/
structure LB (w : World) (bs K : Nat) (H : Frz) (W : World) (g : Nat) (ds : List CouponD) (us : List UseD) : Prop where
  lw : Lw w bs K H W
  bk : BS H W g ds us
  lt : bs < g
section
variable {w W W' : World} {bs K K' g : Nat} {H : Frz} {ds : List CouponD} {us us' : List UseD}
theorem LB.more (h : LB w bs K H W g ds us) (hK : K ≤ K') : LB w bs K' H W g ds us := ⟨h.lw.more hK, h.bk, h.lt⟩
theorem LB.call (h : LB w bs K H W g ds us) (hb : Below W.heap.size W W') : LB w bs K H W' g ds us := ⟨h.lw.call hb, h.bk.below hb, h.lt⟩
theorem LB.asked (h : LB w bs K H W g ds us) (L : Lw w bs K' H W') (hg : W.grownBy W' (some bs)) : LB w bs K' H W' g ds us := ⟨L, h.bk.grown hg h.lt h.lw.apart, h.lt⟩
theorem LB.alloc (h : LB w bs K H W g ds us) (o : Obj) : LB w bs K H (W.alloc o) g ds us := h.call ((Below.refl _ _).alloc (Nat.le_refl _) _)
theorem LB.own (h : LB w bs K H W g ds us) (hp : BS H W' g ds us') (hb : Below g W W') : LB w bs K H W' g ds us' :=
  ⟨⟨h.lw.st.below (hb.mono h.lt), h.lw.bel.trans (hb.mono (by have := h.lw.le; have := h.lt; omega)), h.lw.le, hp.fin, h.lw.apart⟩, hp, h.lt⟩
/-- What is so at the head of the first loop. -/
structure LBI (w : World) (bs K : Nat) (H : Frz) (W : World) (g : Nat) (ds : List CouponD) (us : List UseD) (n : Nat) : Prop where
  lb : LB w bs K H W g ds us
  inv : BInv ds us
  len : us.length ≤ n
  sz : ∀ u ∈ us, u.person.size ≤ 1000
theorem LBI.redeem {code who : ByteArray} {at_ : Int} {e : Ending} {n : Nat} (h : LBI w bs K H W g ds us n) (hOK : CouponsOK ds) (hw : who.size ≤ 1000) (ht : RedPost H g ds us code who at_ W e W') (hn : n < 5000) :
    ∃ us' m k, e = .returned (.tuple #[.int .i64 m, .int .i64 k]) ∧ LBI w bs K H W' g ds us' (n + 1) ∧ (k = 0 ↔ ∃ d, CkOK ds code who at_ d ∧ canR us d code who at_) := by
  obtain ⟨us', hbs, hb, ⟨k, m, hk, rfl, rfl, hno⟩ | ⟨d, r, no, hck, hcan, rfl, rfl⟩⟩ := ht
  · refine ⟨_, m, k, rfl, ⟨h.lb.own hbs hb, h.inv, by have := h.len; omega, h.sz⟩, fun c => absurd c hk, ?_⟩
    rintro ⟨d, h1, h2⟩
    have := hno d h1 h2
    have := h.len
    omega
  · refine ⟨_, r, 0, rfl, ⟨h.lb.own hbs hb, h.inv.redeemed hOK (coOf_mem hck.2.1).1 (coOf_mem hck.2.1).2 hcan.2.2.1 hcan.2.2.2 no at_, by have := h.len; simp; omega, ?_⟩, fun _ => ⟨d, hck, hcan⟩, fun _ => rfl⟩
    intro u hu
    rcases List.mem_append.1 hu with hu | hu
    · exact h.sz u hu
    · simp at hu; rw [hu]; exact hw
theorem LBI.undo {at_ : Int} {e : Ending} {n : Nat} (h : LBI w bs K H W g ds us n) (h0 : 0 ≤ at_) (ht : UndoPost H g ds us at_ W e W') : ∃ us' r, e = .returned (.int .i64 r) ∧ LBI w bs K H W' g ds us' (n + 1) := by
  obtain ⟨⟨r, rfl⟩, us', hbs, hb, hlen, rfl | ⟨i, hi, rfl⟩⟩ := ht
  · exact ⟨_, r, rfl, h.lb.own hbs hb, h.inv, by have := h.len; omega, h.sz⟩
  · refine ⟨_, r, rfl, h.lb.own hbs hb, h.inv.undone hi h0, by have := h.len; omega, ?_⟩
    intro u hu
    rcases List.mem_or_eq_of_mem_set hu with hu | hu
    · exact h.sz u hu
    · rw [hu]; exact h.sz us[i] (List.getElem_mem hi)
set_option maxHeartbeats 400000 in
theorem Lw.OneB (h : Lw w bs K H W) (A : Option Addr) (cap : Nat) (ss : List ByteArray) (hA : StrsW W A ss) (hne : ∀ b off, A = some ⟨b, off, none⟩ → b ≠ bs)
    (h0 : 0 < ss.length) (hl : ss.length ≤ 1000000) (hK : K ≤ 1099511627776) :
    Calls Tryd.prog 11 #[.pointer (some ⟨bs, 0, none⟩), .slice A ss.length cap] W fun e W' =>
      ∃ s : ByteArray, e = .returned (.string s) ∧ s ∈ ss ∧ Lw w bs (K + 1) H W' ∧ W.grownBy W' (some bs) ∧ W'.heap.size = W.heap.size := by
  have HC := Lib.hid (h.one A cap ss hA hne h0 hl hK)
  clear h hA hne
  go_enter Tryd.func11, Tryd.ntmps11
  go_wp2_with fail
  refine HC.out.mono ?_
  rintro e W' ⟨s, rfl, hs, L, g, hz⟩
  have HS := Lib.hid hs
  have HG := Lib.hid g
  have HL := Lib.hid L
  have HZ := Lib.hid hz
  clear hs g L hz HC
  go_wp2_with fail
  go_ret
  exact ⟨_, rfl, HS.out, HL.out, HG.out, HZ.out⟩
end
/-- How often each person has a code, as a map. -/
def ownCt (us : List UseD) (code : ByteArray) (l : Lit) : Nat := us.countP (fun u => liveB code u && l.sameKey (codeLit u.person))
def ownMp (us : List UseD) (code : ByteArray) : Lit → Option Value := fun l => if ownCt us code l = 0 then none else some (.int .i64 (ownCt us code l))
theorem ownCt_at (us : List UseD) (code who : ByteArray) : ownCt us code (codeLit who) = ownN us code who := by
  unfold ownCt ownN ownB
  congr 1
  funext u
  rw [sameKey_code]
theorem ownMp_get (us : List UseD) (code who : ByteArray) : (ownMp us code (codeLit who)).getD (.int .i64 0) = .int .i64 (ownN us code who) := by
  unfold ownMp
  rw [ownCt_at]
  by_cases e : ownN us code who = 0
  · rw [if_pos e, e]; rfl
  · rw [if_neg e]; rfl
theorem ownMp_yes (us : List UseD) (code : ByteArray) (u : UseD) (h : liveB code u = true) : mpSet (ownMp us code) (codeLit u.person) (.int .i64 (ownN us code u.person + 1)) = ownMp (us ++ [u]) code := by
  funext l
  have hs : ownCt (us ++ [u]) code l = ownCt us code l + (if l.sameKey (codeLit u.person) then 1 else 0) := by
    unfold ownCt
    rw [List.countP_append, List.countP_singleton, h]
    simp
  unfold mpSet
  by_cases e : l.sameKey (codeLit u.person) = true
  · have e2 := WideAt.sameKey_eq e
    rw [if_pos e]
    unfold ownMp
    rw [hs, if_pos e, if_neg (by omega)]
    subst e2
    rw [ownCt_at]
    simp
  · rw [if_neg e]
    unfold ownMp
    rw [hs, if_neg e]
    rfl
theorem ownMp_no (us : List UseD) (code : ByteArray) (u : UseD) (h : liveB code u = false) : ownMp (us ++ [u]) code = ownMp us code := by
  funext l
  have hs : ownCt (us ++ [u]) code l = ownCt us code l := by
    unfold ownCt
    rw [List.countP_append, List.countP_singleton, h]
    simp
  unfold ownMp
  rw [hs]
theorem ownMp_nil (code : ByteArray) : ownMp [] code = mpNew := rfl
theorem ownMp_take (us : List UseD) (code : ByteArray) (k : Nat) (h : k < us.length) (hl : liveB code us[k] = true) : mpSet (ownMp (us.take k) code) (codeLit us[k].person) (.int .i64 (ownN (us.take k) code us[k].person + 1)) = ownMp (us.take (k + 1)) code := by
  rw [List.take_succ_eq_append_getElem h, ownMp_yes _ _ _ hl]
theorem ownMp_take' (us : List UseD) (code : ByteArray) (k : Nat) (h : k < us.length) (hl : liveB code us[k] = false) : ownMp (us.take (k + 1)) code = ownMp (us.take k) code := by
  rw [List.take_succ_eq_append_getElem h, ownMp_no _ _ _ hl]
theorem zeroInt (w : World) : (zeroValue 3).run Tryd.prog w = .ok (.int .i64 0) w := by kernel_rfl
theorem annbo_size {s : ByteArray} (h : s ∈ [(⟨#[97, 110, 110]⟩ : ByteArray), ⟨#[98, 111]⟩]) : s.size ≤ 1000 := by
  simp at h
  rcases h with rfl | rfl
  · show (3 : Nat) ≤ 1000; omega
  · show (2 : Nat) ≤ 1000; omega
theorem wpList_mp_getv {P : Program} (w : World) {ops : Array Oper} {rest : List Oper} {o : Oper} {a : Act} {Q : Exit → Act → World → Prop}
    (hg : o.guard = none) (mo x : Operand) (t : TypeId) (hop : o.op = Op.lookup t mo x false)
    (k e : TypeId) (K : Maps.Keyed P k) (ht : P.underlying t = some (.map k e)) (z : Value) (hz : (zeroValue e).run P w = .ok z w) (b n : Nat) (m : Lit → Option Value)
    (hm : a.eval mo = .map (some b)) (hown : Mp P k w b n m) (key : Value) (kl : Lit) (hx : a.eval x = key) (hkey : keyOf P k key = some kl) (v : Value) (hv : (m kl).getD z = v)
    (hK : wpList P ops Q rest (a.put o.dst v) w) :
    wpList P ops Q (o :: rest) a w :=
  wpList_mp_get w hg mo x t hop k e K ht z hz b n m hm hown key kl hx hkey (by rw [hv]; exact hK)
/-- What is so at the head of the innermost loop. -/
structure UI (wc : World) (H : Frz) (qm : Nat) (us : List UseD) (code : ByteArray) (k : Nat) (wr : World) : Prop where
  fin : H.In wr
  bel : Below wc.heap.size wc wr
  map : Mp Tryd.prog 9 wr qm k (ownMp (us.take k) code)
  apart : H qm = none
  le : wc.heap.size ≤ qm
theorem UI.alloc {wc : World} {H : Frz} {qm : Nat} {us : List UseD} {code : ByteArray} {k : Nat} {wr : World} (h : UI wc H qm us code k wr) (o : Obj) : UI wc H qm us code k (wr.alloc o) :=
  ⟨h.fin.alloc o, h.bel.alloc h.bel.size o, h.map.alloc o, h.apart, h.le⟩
theorem UI.pass {wc : World} {H : Frz} {qm : Nat} {us : List UseD} {code : ByteArray} {k : Nat} {wr : World} (h : UI wc H qm us code k wr) (hk : k < us.length) (hl : liveB code us[k] = false) : UI wc H qm us code (k + 1) wr :=
  ⟨h.fin, h.bel, by rw [ownMp_take' us code k hk hl]; exact h.map.mono (by omega), h.apart, h.le⟩
theorem UI.put {wc : World} {H : Frz} {qm : Nat} {us : List UseD} {code : ByteArray} {k : Nat} {wr w' : World} (h : UI wc H qm us code k wr) (hk : k < us.length) (hl : liveB code us[k] = true) (hM : Mp Tryd.prog 9 w' qm (k + 1) (mpSet (ownMp (us.take k) code) (codeLit us[k].person) (.int .i64 (ownN (us.take k) code us[k].person + 1)))) (hg : wr.grownBy w' (some qm)) : UI wc H qm us code (k + 1) w' :=
  ⟨h.fin.grown hg h.apart, h.bel.grown hg h.bel.size (fun q hq => by injection hq with hq; have := h.le; omega), by rw [← ownMp_take us code k hk hl]; exact hM, h.apart, h.le⟩
set_option maxHeartbeats 8000000 in
set_option maxRecDepth 100000 in
theorem booksHold_walk (a0 : Option Addr) (len0 cap0 : Nat) (z0 : List Int) (w : World) (w0 : IsRow .i64 w a0 len0 cap0 z0) :
    Calls Tryd.prog 3 #[.slice a0 len0 cap0] w fun e w' => e = .returned (.bool true) ∧ Below w.heap.size w w' := by
  have L := Lw.new w0
  have hmm := @run_makeMap Tryd.prog
  go_enter Tryd.func3, Tryd.ntmps3
  go_wp2_with fail
  refine (L.coupons (by omega)).mono ?_
  rintro e W1 ⟨v, H1, ds, rfl, le1, C, hdl, hkb⟩
  obtain ⟨A, cap, H2, hv, hlec, q1, q2, hR, q3, -⟩ := C.row.freeze H1
  subst hv
  have hin := q1 C.lw.fin
  have hap : H2 w.heap.size = none := by rw [q3 _ C.2.2.2.1]; exact C.lw.apart
  have L2 : Lw w w.heap.size 200 H2 W1 := ⟨C.lw.st, C.lw.bel, C.lw.le, hin, hap⟩
  have HL2 := Lib.hid L2
  have HR := Lib.hid hR
  have HSZ := Lib.hid hkb
  have hl6 : ds.length ≤ 1000000 := by omega
  clear L C q1 q2 q3 hR hin le1 hkb L2 hap w0
  go_wp2_with fail
  refine (newBook_any H2 A cap ds W1 HL2.out.fin HR.out HSZ.out hl6 hlec).mono ?_
  rintro e W2 ⟨hb2, ⟨n, hn0, rfl, hno⟩ | ⟨hOK, g, H3, rfl, hg, le3, heq, hPS⟩⟩
  · have hn1 : (n != 0) = true := by simpa using hn0
    have HL3 := Lib.hid (HL2.out.call hb2)
    have HNO := Lib.hid hno
    clear hn0 hb2 hno
    go_wp2_with fail
    refine (offers_any _).mono ?_
    rintro e w' ⟨rfl, rfl⟩
    go_wp2_with fail
    refine (couponsFault_any H2 A cap ds W2 HL3.out.fin HR.out (fun d hd => ⟨(HSZ.out d hd).1, (HSZ.out d hd).2.1⟩) hl6 hlec).mono ?_
    rintro e W3 ⟨k, rfl, hk, hb3⟩
    have hk1 : (k != 0) = true := by
      simp
      exact fun c => HNO.out (hk.1 c)
    have HL4 := Lib.hid (HL3.out.call hb3)
    clear hk hb3
    go_wp2_with fail
    go_ret
    exact ⟨rfl, HL4.out.bel⟩
  · have LB0 : LB w w.heap.size 200 H3 W2 g ds [] := by
      have h1 := HL2.out.call hb2
      exact ⟨⟨h1.st, h1.bel, h1.le, hPS.fin, by rw [heq _ HL2.out.lt]; exact HL2.out.apart⟩, hPS, Nat.lt_of_lt_of_le HL2.out.lt hg⟩
    have HP0 := Lib.hid LB0
    have HR3 := Lib.hid (HR.out.le le3)
    have HOK := Lib.hid hOK
    have hI0 := Lib.hid (BInv.nil hOK)
    clear hb2 hOK hg heq hPS LB0 le3 HR
    go_wp2_with fail
    refine (HP0.out.lw.next' 16 (by omega) (by omega) (by omega)).mono ?_
    rintro e W3 ⟨r, rfl, r0, r1, L3, g3, -⟩
    have HP1 : Hid (LBI w w.heap.size 201 H3 W3 g ds [] 0) := ⟨HP0.out.asked L3 g3, hI0.out, by simp, fun u hu => by cases hu⟩
    obtain ⟨r, rfl⟩ := Int.eq_ofNat_of_zero_le r0
    clear L3 g3 HP0 HL2
    go_wp2_with fail
    go_loopw [40] (fun t wr => ∃ (i : Nat) (us : List UseD), i ≤ r ∧ t = .int .i64 i ∧ Hid (LBI w w.heap.size (201 + 130 * i) H3 wr g ds us i)) (fun t _ => r - (intOf t).toNat)
    case atStart => exact ⟨0, [], by omega, rfl, HP1⟩
    case round =>
      obtain ⟨i, us, hi, rfl, hst⟩ := hrel
      clear HP1 hI0
      by_cases hlt : i < r
      · go_wp2_with fail
        refine (hst.out.lb.lw.couponCode (by omega)).mono ?_
        rintro e W4 ⟨code, rfl, hcode, L4, g4⟩
        have HB4 := Lib.hid (hst.out.lb.asked L4 g4)
        have hne := L4.lt
        have hS : StrsW (W4.alloc (.cells #[.string ⟨#[97, 110, 110]⟩, .string ⟨#[98, 111]⟩] 9)) (some ⟨W4.heap.size, 0, none⟩) [⟨#[97, 110, 110]⟩, ⟨#[98, 111]⟩] := StrsW.of_row (heap_at rfl) rfl
        have HS := Lib.hid hS
        clear hS L4 g4
        go_wp2_with fail
        refine ((HB4.out.alloc _).lw.OneB _ _ [⟨#[97, 110, 110]⟩, ⟨#[98, 111]⟩] HS.out (fun b off e => by injection e with e; injection e with e1 e2; omega) (by simp) (by simp) (by omega)).mono ?_
        rintro e W5 ⟨who, rfl, hwho, L5, g5, -⟩
        have HB5 := Lib.hid ((HB4.out.alloc _).asked L5 g5)
        have hwsz := annbo_size hwho
        clear hne HS hwho
        have hne := L5.lt
        have hIn : Ints (W5.alloc (.cells #[.int .i64 0, .int .i64 10, .int .i64 49, .int .i64 60] 3)) (some ⟨W5.heap.size, 0, none⟩) [0, 10, 49, 60] := Ints.of_row (heap_at rfl) rfl
        have HIn := Lib.hid hIn
        clear hIn L5 g5 HB4
        go_wp2_with fail
        refine ((HB5.out.alloc _).lw.pick _ _ [0, 10, 49, 60] HIn.out (fun b off e => by injection e with e; injection e with e1 e2; omega) (by simp) (by simp) (by omega)).mono ?_
        rintro e W6 ⟨at_, rfl, hat, L6, g6, -⟩
        have HB6 := Lib.hid ((HB5.out.alloc _).asked L6 g6)
        have hat2 : 0 ≤ at_ ∧ at_ ≤ 60 := by simp at hat; omega
        clear L6 g6 HIn hne hat HB5
        go_wp2_with fail
        refine (HB6.out.lw.flip 4 (by omega) (by omega)).mono ?_
        rintro e W7 ⟨fl, rfl, L7, g7, -⟩
        have HB7 := Lib.hid (HB6.out.asked L7 g7)
        clear L7 g7 HB6
        cases fl with
        | true =>
          go_wp2_with fail
          refine (HB7.out.lw.range 1 5 (by omega) (by omega) (by omega) (by omega)).mono ?_
          rintro e W8 ⟨no, rfl, n0, n1, L8, g8, -⟩
          have HI8 : Hid (LBI w w.heap.size (201 + 130 * (i + 1)) H3 W8 g ds us i) := ⟨(HB7.out.asked L8 g8).more (by omega), hst.out.inv, hst.out.len, hst.out.sz⟩
          clear L8 g8 HB7
          go_wp2_with fail
          refine (undo_any H3 g ds us W8 HI8.out.lb.bk no at_ n0 (by omega) hat2.1 (by omega)).mono ?_
          rintro e W9 hu
          obtain ⟨us', rr, rfl, hI9⟩ := HI8.out.undo hat2.1 hu
          have HI9 := Lib.hid hI9
          clear hu hI9 HI8
          go_wp2_with fail
          go_roundw
          case rel => exact ⟨i + 1, us', by omega, by go_num, HI9⟩
          case measure => simp [intOf]; omega
        | false =>
          have HI8 : Hid (LBI w w.heap.size (201 + 130 * (i + 1)) H3 W7 g ds us i) := ⟨HB7.out.more (by omega), hst.out.inv, hst.out.len, hst.out.sz⟩
          obtain ⟨H4, le4, hin4, hBF⟩ := HI8.out.lb.bk.freeze
          have HIN4 := Lib.hid hin4
          have HBF := Lib.hid hBF
          clear HB7 le4 hin4 hBF
          go_wp2_with fail
          refine (free_any H4 g ds us HBF.out HOK.out code who at_ (by omega) hwsz W7 HIN4.out).mono ?_
          rintro e W8 ⟨hf, hb8⟩
          have HI9 : Hid (LBI w w.heap.size (201 + 130 * (i + 1)) H3 W8 g ds us i) := ⟨HI8.out.lb.call hb8, HI8.out.inv, HI8.out.len, HI8.out.sz⟩
          have HF := Lib.hid hf
          obtain ⟨m, n, rfl⟩ : ∃ m n : Int, e = .returned (.tuple #[.int .i64 m, .int .i64 n]) := by
            rcases hf with ⟨n, _, m, he, _⟩ | ⟨d, m, _, he, _⟩
            · exact ⟨m, n, he⟩
            · exact ⟨m, 0, he⟩
          have HF2 : Hid (n = 0 → ∃ d, CkOK ds code who at_ d ∧ (0 < m ↔ canR us d code who at_)) := by
            intro hn
            rcases HF.out with ⟨n', hn', m', he, _⟩ | ⟨d, m', hck, he, hiff⟩
            · simp at he; omega
            · simp at he
              refine ⟨d, hck, ?_⟩
              rw [he.1]; exact hiff
          clear hf hb8 HF HI8 HIN4 HBF
          go_wp2_with fail
          refine (redeem_any H3 g ds us W8 HI9.out.lb.bk code who at_ (by omega) hwsz).mono ?_
          rintro e W9 hr
          obtain ⟨us', m2, k2, rfl, hI10, hk2⟩ := HI9.out.redeem HOK.out hwsz hr (by omega)
          have HI10 := Lib.hid hI10
          have HK : Hid (n = 0 → (k2 = 0 ↔ 0 < m)) := by
            intro hn
            obtain ⟨d, hck, hiff⟩ := HF2.out hn
            rw [hk2, hiff]
            exact ⟨fun ⟨d', h1, h2⟩ => by rw [h1.one hck] at h2; exact h2, fun h => ⟨d, hck, h⟩⟩
          clear hr hI10 hk2 HF2 HI9
          by_cases n0 : n = 0
          · have hiff := HK.out n0
            have e0 : (n == 0) = true := by simpa using n0
            clear HK n0
            by_cases k0 : k2 = 0
            · have e1 : (k2 == 0) = true := by simpa using k0
              have e2 : decide (0 < m) = true := by simpa using hiff.1 k0
              clear hiff k0
              go_wp2_with fail
              go_roundw
              case rel => exact ⟨i + 1, us', by omega, by go_num, HI10⟩
              case measure => simp [intOf]; omega
            · have e1 : (k2 == 0) = false := by simpa using k0
              have e2 : decide (0 < m) = false := by simpa using fun h => k0 (hiff.2 h)
              clear hiff k0
              go_wp2_with fail
              go_roundw
              case rel => exact ⟨i + 1, us', by omega, by go_num, HI10⟩
              case measure => simp [intOf]; omega
          · have e0 : (n == 0) = false := by simpa using n0
            clear HK n0
            go_wp2_with fail
            go_roundw
            case rel => exact ⟨i + 1, us', by omega, by go_num, HI10⟩
            case measure => simp [intOf]; omega
      · obtain ⟨H4, le4, hin4, hBF⟩ := hst.out.lb.bk.freeze
        have HST := Lib.hid hst.out
        have HIN4 := Lib.hid hin4
        have HBF := Lib.hid hBF
        have HR4 := Lib.hid (HR3.out.le le4)
        have husl : us.length ≤ 5000 := hst.out.lb.bk.l2
        clear hin4 hBF le4 hst
        obtain ⟨wc, rfl⟩ : ∃ wc : World, wc = wr := ⟨_, rfl⟩
        go_wp2_with fail
        go_loopw [85] (fun t wr => ∃ j : Nat, j ≤ ds.length ∧ t = .int .i64 j ∧ Hid (Below wc.heap.size wc wr)) (fun t _ => ds.length - (intOf t).toNat)
        case atStart => exact ⟨0, by omega, rfl, Below.refl _ _⟩
        case round =>
          obtain ⟨j, hj, rfl, hbw⟩ := hrel
          by_cases hltj : j < ds.length
          · have hin5 := HIN4.out.below hbw.out
            obtain ⟨b, off, hA, hbl, hc⟩ := HR4.out.at_ hin5 hltj (by omega)
            subst hA
            have c0 : wr.cell? ⟨b, off + j * 6, none⟩ = some (.string ds[j].code) := hc 0 (by omega)
            have c1 : wr.cell? ⟨b, off + j * 6 + 1, none⟩ = some (.string ds[j].offer) := hc 1 (by omega)
            have c2 : wr.cell? ⟨b, off + j * 6 + 2, none⟩ = some (.int .i64 ds[j].most) := hc 2 (by omega)
            have c3 : wr.cell? ⟨b, off + j * 6 + 3, none⟩ = some (.int .i64 ds[j].each) := hc 3 (by omega)
            have c4 : wr.cell? ⟨b, off + j * 6 + 4, none⟩ = some (.int .i64 ds[j].first) := hc 4 (by omega)
            have c5 : wr.cell? ⟨b, off + j * 6 + 5, none⟩ = some (.int .i64 ds[j].last) := hc 5 (by omega)
            have HINV := Lib.hid (HST.out.inv ds[j] (List.getElem_mem hltj))
            generalize ds[j] = d at c0 c1 c2 c3 c4 c5 HINV
            obtain ⟨H5, le5, hbx, hin6⟩ := hin5.put (.cells #[.string d.code, .string d.offer, .int .i64 d.most, .int .i64 d.each, .int .i64 d.first, .int .i64 d.last] 44)
            have hb6 := hbw.out.alloc hbw.out.size (.cells #[.string d.code, .string d.offer, .int .i64 d.most, .int .i64 d.each, .int .i64 d.first, .int .i64 d.last] 44)
            have hsz6 : (wr.alloc (.cells #[.string d.code, .string d.offer, .int .i64 d.most, .int .i64 d.each, .int .i64 d.first, .int .i64 d.last] 44)).heap.size = wr.heap.size + 1 := World.size_alloc' _ _
            have hMp := Mp.made Tryd.prog 9 (wr.alloc (.cells #[.string d.code, .string d.offer, .int .i64 d.most, .int .i64 d.each, .int .i64 d.first, .int .i64 d.last] 44))
            have hap := hin6.none_ (Nat.le_refl _)
            have hleq := hb6.size
            rw [hsz6] at hMp hap hleq
            have HB7 := Lib.hid (hb6.alloc hb6.size (.map #[] 0))
            have HIN7 := Lib.hid (hin6.alloc (.map #[] 0))
            have HMP := Lib.hid hMp
            have HAP := Lib.hid hap
            have HLEQ := Lib.hid hleq
            have HBF5 := Lib.hid (HBF.out.le le5)
            have HBX := Lib.hid hbx
            have hmm := @run_makeMap Tryd.prog
            clear hc hin5 le5 hbx hin6 hb6 hMp hap hleq
            obtain ⟨wo, rfl⟩ : ∃ wo : World, wo = wr := ⟨_, rfl⟩
            go_upto_region 20 with (fail)
            clear c0 c1 c2 c3 c4 c5 hmm hsz6
            generalize wo.heap.size = qb at *
            generalize (wo.alloc _).alloc _ = W6 at HB7 HIN7 HMP
            go_wp2_with fail
            refine (uses_any H5 g ds us HBF5.out W6 HIN7.out).mono ?_
            rintro e W7 ⟨⟨v, rfl, hO⟩, hb7⟩
            obtain ⟨Ax, capx, H6, hv, hcx, q1, q2, hRx, q3, -⟩ := hO.freeze H5
            subst hv
            have hin7 := q1 (HIN7.out.below hb7)
            have le6 := q2 (fun q hq => HIN7.out.none_ (hO.lt hq).1)
            have HUI : Hid (UI wc H6 (qb + 1) us d.code 0 W7) := ⟨hin7, HB7.out.trans (hb7.mono HB7.out.size), HMP.out.below hb7, by rw [q3 _ HMP.out.lt]; exact HAP.out, HLEQ.out⟩
            have HBX6 := Lib.hid (le6 _ _ HBX.out)
            have HRX := Lib.hid hRx
            clear hO hb7 q1 q2 q3 hRx hin7 le6 HBF5 HBX HIN7 HB7 HMP HAP HLEQ
            go_wp2_with fail
            go_loopw [16, 93] (fun a t wr => ∃ k : Nat, k ≤ us.length ∧ a = .int .i64 (allN (us.take k) d.code) ∧ t = .int .i64 k ∧ Hid (UI wc H6 (qb + 1) us d.code k wr)) (fun _ t _ => us.length - (intOf t).toNat)
            case atStart => exact ⟨0, by omega, rfl, rfl, HUI⟩
            case round =>
              obtain ⟨k, hk, rfl, rfl, hui⟩ := hrel
              clear HUI
              by_cases hltk : k < us.length
              · obtain ⟨bx, ox, hA, hblx, hc⟩ := HRX.out.at_ hui.out.fin hltk (by omega)
                subst hA
                have c0 : wr.cell? ⟨bx, ox + k * 5, none⟩ = some (.int .i64 us[k].no) := hc 0 (by omega)
                have c1 : wr.cell? ⟨bx, ox + k * 5 + 1, none⟩ = some (.string us[k].code) := hc 1 (by omega)
                have c2 : wr.cell? ⟨bx, ox + k * 5 + 2, none⟩ = some (.string us[k].person) := hc 2 (by omega)
                have c3 : wr.cell? ⟨bx, ox + k * 5 + 3, none⟩ = some (.int .i64 us[k].at_) := hc 3 (by omega)
                have c4 : wr.cell? ⟨bx, ox + k * 5 + 4, none⟩ = some (.int .i64 us[k].undone) := hc 4 (by omega)
                have hs1 := Lib.hid (allN_succ us d.code k hltk)
                have hbd1 := allN_le (us.take k) d.code
                have hbd2 := ownN_le (us.take k) d.code us[k].person
                have hlen : (us.take k).length = k := by simp; omega
                rw [hlen] at hbd1 hbd2
                have HKP := Lib.hid (strKey (s := us[k].person) (by have := HST.out.sz us[k] (List.getElem_mem hltk); omega))
                obtain ⟨y0, y1, y2, y3, y4, y5⟩ := frz6 (hui.out.fin.alloc (.cells #[.int .i64 us[k].no, .string us[k].code, .string us[k].person, .int .i64 us[k].at_, .int .i64 us[k].undone] 49)) HBX6.out
                have HU2 := Lib.hid (hui.out.alloc (.cells #[.int .i64 us[k].no, .string us[k].code, .string us[k].person, .int .i64 us[k].at_, .int .i64 us[k].undone] 49))
                have hqb : qb < wr.heap.size := hui.out.fin.lt HBX6.out
                have HPASS : Hid (liveB d.code us[k] = false → ∀ w', UI wc H6 (qb + 1) us d.code k w' → UI wc H6 (qb + 1) us d.code (k + 1) w') := fun h w' hu => hu.pass hltk h
                have HPUT : Hid (liveB d.code us[k] = true → ∀ w1 w', UI wc H6 (qb + 1) us d.code k w1 → Mp Tryd.prog 9 w' (qb + 1) (k + 1) (mpSet (ownMp (us.take k) d.code) (codeLit us[k].person) (.int .i64 (ownN (us.take k) d.code us[k].person + 1))) → w1.grownBy w' (some (qb + 1)) → UI wc H6 (qb + 1) us d.code (k + 1) w') := fun h w1 w' hu hM hg => hu.put hltk h hM hg
                have HGET := Lib.hid (ownMp_get (us.take k) d.code us[k].person)
                generalize us[k] = x at c0 c1 c2 c3 c4 hs1 hbd2 HKP y0 y1 y2 y3 y4 y5 HU2 HPASS HPUT HGET
                generalize allN (us.take k) d.code = t1 at hs1 hbd1
                generalize ht1 : allN (us.take (k + 1)) d.code = t1' at hs1
                generalize ownN (us.take k) d.code x.person = t2 at hbd2 HPUT HGET
                have HT1 := Lib.hid ht1
                clear ht1 hc hlen
                by_cases e1 : (x.code.toList == d.code.toList) = true
                · by_cases e2 : x.undone < 0
                  · have e2' : decide (x.undone < 0) = true := by simpa using e2
                    have hlv : Hid (liveB d.code x = true) := by show _ = _; simp [liveB, e1, e2]
                    have hv1 : Hid (t1' = t1 + 1) := by show _ = _; rw [hs1.out, hlv.out]; rfl
                    clear hs1 e2 HPASS
                    go_wp2_with (first | (at_lookup; refine wpList_mp_getv _ rfl _ _ 45 rfl 9 3 strKeyed Tryd.underlying45 (.int .i64 0) (zeroInt _) (qb + 1) k (ownMp (us.take k) d.code) rfl HU2.out.map _ _ rfl HKP.out _ HGET.out ?_) | (at_mapUpdate; refine wpList_mp_set _ rfl _ _ _ 45 rfl 9 3 strKeyed Tryd.underlying45 (qb + 1) k (ownMp (us.take k) d.code) rfl HU2.out.map (by unfold maxLen; omega) _ _ _ rfl rfl HKP.out ?_; intro w5 hM5 hg5 hz5; have HU5 := Lib.hid (HPUT.out hlv.out _ _ HU2.out hM5 hg5); clear hM5 hg5 hz5))
                    go_roundw
                    case rel => exact ⟨k + 1, by omega, by rw [HT1.out, hv1.out]; go_num, by go_num, HU5⟩
                    case measure => simp [intOf]; omega
                  · have e2' : decide (x.undone < 0) = false := by simpa using e2
                    have hlv : Hid (liveB d.code x = false) := by show _ = _; simp [liveB, e2]
                    have hv1 : Hid (t1' = t1) := by show _ = _; rw [hs1.out, hlv.out]; rfl
                    have HU5 := Lib.hid (HPASS.out hlv.out _ HU2.out)
                    clear hs1 e2 HPASS
                    go_wp2_with fail
                    go_roundw
                    case rel => exact ⟨k + 1, by omega, by rw [HT1.out, hv1.out], by go_num, HU5⟩
                    case measure => simp [intOf]; omega
                · have f1 : (x.code.toList == d.code.toList) = false := by simpa using e1
                  have hlv : Hid (liveB d.code x = false) := by show _ = _; simp [liveB, f1]
                  have hv1 : Hid (t1' = t1) := by show _ = _; rw [hs1.out, hlv.out]; rfl
                  have HU5 := Lib.hid (HPASS.out hlv.out _ HU2.out)
                  clear hs1 e1 HPASS
                  go_wp2_with fail
                  go_roundw
                  case rel => exact ⟨k + 1, by omega, by rw [HT1.out, hv1.out], by go_num, HU5⟩
                  case measure => simp [intOf]; omega
              · have hke : k = us.length := by omega
                subst hke
                have hMq := hui.out.map
                rw [List.take_length] at hMq
                rw [List.take_length]
                have hL1 := hMq.look strKeyed Tryd.underlying45 (zeroInt wr) (strKey (s := ⟨#[97, 110, 110]⟩) (by decide)) false
                have hL2 := hMq.look strKeyed Tryd.underlying45 (zeroInt wr) (strKey (s := ⟨#[98, 111]⟩) (by decide)) false
                simp only [Bool.false_eq_true, if_false] at hL1 hL2
                rw [ownMp_get] at hL1 hL2
                obtain ⟨y0, y1, y2, y3, y4, y5⟩ := frz6 hui.out.fin HBX6.out
                have i0 := HINV.out.1
                have i1 := HINV.out.2 ⟨#[97, 110, 110]⟩
                have i2 := HINV.out.2 ⟨#[98, 111]⟩
                generalize allN us d.code = t1 at i0
                generalize ownN us d.code ⟨#[97, 110, 110]⟩ = t2 at i1 hL1
                generalize ownN us d.code ⟨#[98, 111]⟩ = t3 at i2 hL2
                have d0 : decide (d.most < (t1 : Int)) = false := by simpa using i0
                have d1 : decide (d.each < (t2 : Int)) = false := by simpa using i1
                have d2 : decide (d.each < (t3 : Int)) = false := by simpa using i2
                have HB9 := Lib.hid hui.out.bel
                clear hMq
                go_wp2_with fail
                go_roundw
                case rel => exact ⟨j + 1, by omega, by go_num, HB9⟩
                case measure => simp [intOf]; omega
          · have hje : j = ds.length := by omega
            subst hje
            have HB := Lib.hid (HST.out.lb.lw.bel.trans (hbw.out.mono HST.out.lb.lw.bel.size))
            go_wp2_with fail
            refine (offers_any _).mono ?_
            rintro e w' ⟨rfl, rfl⟩
            go_wp2_with fail
            go_ret
            exact ⟨rfl, HB.out⟩
end Go.Proofs.YtecbejmeejepmaaDoor
