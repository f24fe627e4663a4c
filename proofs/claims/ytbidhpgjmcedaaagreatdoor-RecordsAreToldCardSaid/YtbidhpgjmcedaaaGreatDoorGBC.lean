/- Texts of this claim, put together: MakeFds, MakeMs. -/
import Derived.Test.YtbidhpgjmcedaaaGreatDoorGBB
import Derived.Test.YtbidhpgjmcedaaaGreatDoorGAZ
import Derived.Test.YtbidhpgjmcedaaaGreatDoorGAQ
namespace Go.Proofs.YtbidhpgjmcedaaaGreatDoor
set_option linter.unusedVariables false
open Go.RowKit
def namesL : List ByteArray:=[⟨#[97,103,101]⟩,⟨#[99,105,116,121]⟩,⟨#[106,111,105,110,101,100]⟩,⟨#[110,97,109,101]⟩,⟨#[112,108,97,110]⟩,⟨#[118,105,112]⟩]
def NamesIn (H : Frz) : Prop:=∀ i (h : i < namesL.length),H.cell? ⟨0,i,none⟩ = some (.string namesL[i])
theorem NamesIn.le {H H' : Frz} (h : NamesIn H) (hl : H.Le H') : NamesIn H':=fun i hi => hl.cell (h i hi)
theorem names_size {s : ByteArray} (h : s ∈ namesL) : s.size ≤ 1000:=sizeK h (by decide +kernel)
def nmK : List ByteArray:=namesL ++ [⟨#[122,111,111]⟩]
def NmB (s : ByteArray) : Prop:=s.size ≤ 1000 ∧ (isKey s = true → s ∈ nmK)
def FdB (ds : List FD) : Prop:=∀ d ∈ ds,NmB d.name ∧ d.v.text.size ≤ 1000
theorem FdB.sz {ds : List FD} (h : FdB ds) {d : FD} (hd : d ∈ ds) : d.name.size ≤ 1000 ∧ d.v.text.size ≤ 1000:=⟨(h d hd).1.1,(h d hd).2⟩
theorem FdB.snoc {ds : List FD} (h : FdB ds) {d : FD} (hd : NmB d.name ∧ d.v.text.size ≤ 1000) : FdB (ds ++ [d]):=by
 intro y hy
 rcases List.mem_append.1 hy with hy | hy
 ·exact h y hy
 ·simp at hy; rw [hy]; exact hd
theorem infoField : (Tryz.prog.info? 78).map (fun i => (i.zero,i.size,i.bytes)) = some (some (.agg #[.string ⟨#[]⟩,.int .i64 0,.string ⟨#[]⟩,.int .i64 0]),4,48):=by kernel_rfl
abbrev FdM:=RM (D:=FD) 78 4 fFd
def FdPost (w : World) (bs K : Nat) (H : Frz) (W : World) (e : Ending) (W' : World) : Prop:=∃ v ds,e = .returned v ∧ FdM w bs (K + 200) H W.heap.size v ds W' ∧ ds.length ≤ 7 ∧ FdB ds ∧ W.grownBy W' (some bs)
theorem fds_grown {w0 w1 w2 : World} {bs : Nat} {r : Option Nat} (h : w0.grownBy w1 (some bs)) (g : w1.grownBy w2 r) (b : Below w0.heap.size w1 w2) : w0.grownBy w2 (some bs) :=
 ⟨g.os.trans h.os,g.tape.trans h.tape,g.output.trans h.output,Nat.le_trans h.size g.size,fun k hk hne => (b.block k hk).trans (h.block k hk hne)⟩
def FM (w : World) (bs K : Nat) (H : Frz) (W : World) (v : Value) (ds : List FD) (wr : World) : Prop:=FdM w bs K H W.heap.size v ds wr ∧ W.grownBy wr (some bs)
section
variable {w W wr W' : World} {bs K K' : Nat} {H : Frz} {v : Value} {ds : List FD}
theorem FM.lw (h : FM w bs K H W v ds wr) : Lw w bs K H wr:=h.1.lw
theorem FM.asked (h : FM w bs K H W v ds wr) (L : Lw w bs K' H W') (g : wr.grownBy W' (some bs)) : FM w bs K' H W v ds W':=⟨h.1.asked L g,vm_then h.2 g⟩
theorem FM.call (h : FM w bs K H W v ds wr) (hb : Below wr.heap.size wr W') : FM w bs K H W v ds W':=⟨h.1.call hb,vm_then h.2 (vm_below hb)⟩
theorem FM.alloc (h : FM w bs K H W v ds wr) (o : Obj) : FM w bs K H W v ds (wr.alloc o):=h.call (new1 o)
theorem FM.more (h : FM w bs K H W v ds wr) (hK : K ≤ K') : FM w bs K' H W v ds wr:=⟨h.1.more hK,h.2⟩
end
set_option maxHeartbeats 4000000 in
set_option maxRecDepth 100000 in
theorem Lw.fields {w W : World} {bs K : Nat} {H : Frz} (h : Lw w bs K H W) (hK : K ≤ 5000000) (hN : NamesIn H) (most : Nat) (hm : most ≤ 1000) :
  Calls Tryz.prog 12 #[.pointer (some ⟨bs,0,none⟩),.int .i64 most] W (FdPost w bs K H W):=by
 obtain ⟨i0,hi0,hz0,hz1,hz2⟩:=info_parts infoField
 have hbs:=h.lt
 have C0 : Hid (FM w bs K H W (.slice none 0 0) [] W):=⟨RM.new h,World.grownBy.refl _ _⟩
 have n0 : W.cell? ⟨0,0,none⟩ = some (.string ⟨#[97,103,101]⟩):=h.fin.cell (hN 0 (by decide))
 have n1 : W.cell? ⟨0,1,none⟩ = some (.string ⟨#[99,105,116,121]⟩):=h.fin.cell (hN 1 (by decide))
 have n2 : W.cell? ⟨0,2,none⟩ = some (.string ⟨#[106,111,105,110,101,100]⟩):=h.fin.cell (hN 2 (by decide))
 have n3 : W.cell? ⟨0,3,none⟩ = some (.string ⟨#[110,97,109,101]⟩):=h.fin.cell (hN 3 (by decide))
 have n4 : W.cell? ⟨0,4,none⟩ = some (.string ⟨#[112,108,97,110]⟩):=h.fin.cell (hN 4 (by decide))
 have n5 : W.cell? ⟨0,5,none⟩ = some (.string ⟨#[118,105,112]⟩):=h.fin.cell (hN 5 (by decide))
 clear h hN
 go_enter Tryz.func12,Tryz.ntmps12
 go_wp2_with fail
 clear n0 n1 n2 n3 n4 n5
 go_loopw [5,9] (fun v t wr => ∃ (i : Nat) (ds : List FD),i ≤ 6 ∧ t = .int .i64 i ∧ Hid (FM w bs (K + 22 * i) H W v ds wr) ∧ ds.length ≤ i ∧ Hid (FdB ds)) (fun _ t _ => 6 - (intOf t).toNat)
 case atStart => exact ⟨0,[],by omega,rfl,C0,by simp,(by intro d hd; cases hd)⟩
 case round =>
  obtain ⟨i,ds,hi,rfl,C,hdl,hkb⟩:=hrel
  clear C0
  obtain ⟨A,cap,hv,hle⟩:=C.out.1.row.slice
  by_cases hlt : i < 6
  ·have di : decide ((i : Int) < 6) = true:=by simp; omega
   obtain ⟨nm,hnm,hns⟩ : ∃ nm : ByteArray,(∀ W : World,(Instr.index 117 (.agg #[.string ⟨#[97,103,101]⟩,.string ⟨#[99,105,116,121]⟩,.string ⟨#[106,111,105,110,101,100]⟩,.string ⟨#[110,97,109,101]⟩,.string ⟨#[112,108,97,110]⟩,.string ⟨#[118,105,112]⟩]) (.int .i64 (i : Int))).run Tryz.prog W = .ok (.string nm) W) ∧ NmB nm:=by
    match i,hlt with
    | 0,_ => exact ⟨⟨#[97,103,101]⟩,fun W => by kernel_rfl,by decide,fun _ => by simp [nmK,namesL]⟩
    | 1,_ => exact ⟨⟨#[99,105,116,121]⟩,fun W => by kernel_rfl,by decide,fun _ => by simp [nmK,namesL]⟩
    | 2,_ => exact ⟨⟨#[106,111,105,110,101,100]⟩,fun W => by kernel_rfl,by decide,fun _ => by simp [nmK,namesL]⟩
    | 3,_ => exact ⟨⟨#[110,97,109,101]⟩,fun W => by kernel_rfl,by decide,fun _ => by simp [nmK,namesL]⟩
    | 4,_ => exact ⟨⟨#[112,108,97,110]⟩,fun W => by kernel_rfl,by decide,fun _ => by simp [nmK,namesL]⟩
    | 5,_ => exact ⟨⟨#[118,105,112]⟩,fun W => by kernel_rfl,by decide,fun _ => by simp [nmK,namesL]⟩
   subst hv
   have hm2 : decide ((ds.length : Int) < (most : Int)) = decide (ds.length < most):=by
    by_cases c : ds.length < most
    ·simp [c]
    ·simp [c]
   cases hdm : decide (ds.length < most) with
   | false =>
    have hm3:=hm2.trans hdm
    go_wp2_with fail
    go_roundw
    case rel => exact ⟨i + 1,ds,by omega,by go_num,C.out.more (by omega),by omega,hkb⟩
    case measure => simp [intOf]; omega
   | true =>
    have hm3:=hm2.trans hdm
    go_wp2_with fail
    refine (C.out.lw.flip 2 (by omega) (by omega)).mono ?_
    rintro e W2 ⟨fb,rfl,Lq,gq,-⟩
    have C2:=Lib.hid (C.out.asked Lq gq)
    clear Lq gq C hnm
    cases fb with
    | false =>
     go_wp2_with fail
     go_roundw
     case rel => exact ⟨i + 1,ds,by omega,by go_num,C2.out.more (by omega),by omega,hkb⟩
     case measure => simp [intOf]; omega
    | true =>
     go_wp2_with fail
     refine (C2.out.lw.value (by omega)).mono ?_
     rintro e W3 ⟨d,rfl,hd,Lq,gq⟩
     have C3:=Lib.hid (C2.out.asked Lq gq)
     have hsz : ds.length ≤ 4294967296:=by omega
     clear Lq gq C2 hm2 hdm hm3
     generalize hv2 : Value.slice A ds.length cap = v2 at C3
     unfold vV
     have HOr:=Lib.hid C3.out.1.row
     have HST:=Lib.hid (fun v' W' o g1 at1 => C3.out.1.app (v':=v') (W':=W') (ds':=ds ++ [⟨nm,d⟩]) o g1 at1)
     have HGR : Hid (∀ (W' : World) (g1 : W3.grownBy W' v2.ownBlock) (b1 : Below W.heap.size W3 W'),W.grownBy W' (some bs)):=fun W' g1 b1 => fds_grown C3.out.2 g1 b1
     have hB9:=C3.out.1.2.2.2.2
     go_wp2_with (at_builtin; refine wpList_app_at rfl _ _ 28 rfl W.heap.size 78 i0 (.agg #[.string ⟨#[]⟩,.int .i64 0,.string ⟨#[]⟩,.int .i64 0]) 4 48 Tryz.underlying28 hi0 hz0 hz1 hz2 rfl (by decide) fFd _ ds rfl HOr.out ⟨nm,d⟩ #[.string nm,.int .i64 d.kind,.string d.text,.int .i64 d.num] 78 rfl rfl (by simp [Value.oneCell']) (by omega) (by omega) hB9 ?_; intro v1 w2 o1 g1 b1 at1; have CA:=Lib.hid (HST.out v1 w2 o1 g1 at1); have GA:=Lib.hid (HGR.out w2 g1 b1); clear o1 g1 b1 at1 HST HOr HGR)
     go_roundw
     case rel => exact ⟨i + 1,_,by omega,by go_num,⟨CA.out.more (by omega),GA.out⟩,by simp; omega,hkb.out.snoc ⟨hns,hd⟩⟩
     case measure => simp [intOf]; omega
  ·have hie : i = 6:=by omega
   subst hie
   subst hv
   go_wp2_with fail
   refine (C.out.lw.flip 40 (by omega) (by omega)).mono ?_
   rintro e W2 ⟨fb,rfl,Lq,gq,-⟩
   have C2:=Lib.hid (C.out.asked Lq gq)
   clear Lq gq C
   cases fb with
   | false =>
    have HF : Hid (FdPost w bs K H W (.returned (.slice A ds.length cap)) W2):=⟨_,ds,rfl,C2.out.1.more (by omega),by omega,hkb.out,C2.out.2⟩
    clear C2
    go_wp2_with fail
    exact bodyPost_ret (by kernel_rfl) rfl HF.out
   | true =>
    go_wp2_with fail
    refine (rep2_any 122 41 41 (by omega) (by omega) W2).mono ?_
    rintro e W3 ⟨s3,rfl,hs3,hb3⟩
    have C3:=Lib.hid (C2.out.call hb3)
    clear hb3 C2
    have hne:=C3.out.lw.lt
    have hSt : StrsW (W3.alloc (.cells #[.string ⟨#[]⟩,.string ⟨#[65]⟩,.string ⟨#[122,111,111]⟩,.string ⟨#[97,103,101]⟩,.string s3] 9)) (some ⟨W3.heap.size,0,none⟩) [⟨#[]⟩,⟨#[65]⟩,⟨#[122,111,111]⟩,⟨#[97,103,101]⟩,s3]:=StrsW.of_row (heap_at rfl) rfl
    have HSt:=Lib.hid hSt
    clear hSt
    go_wp2_with fail
    refine ((C3.out.alloc _).lw.one _ _ [⟨#[]⟩,⟨#[65]⟩,⟨#[122,111,111]⟩,⟨#[97,103,101]⟩,s3] HSt.out (fun b off e => by injection e with e; injection e with e1 e2; omega) (by simp) (by simp) (by omega)).mono ?_
    rintro e W4 ⟨nm,rfl,hx,Lq,gq,-⟩
    have C4:=Lib.hid ((C3.out.alloc _).asked Lq gq)
    clear Lq gq HSt hne C3
    have hns : NmB nm:=by
     simp only [List.mem_cons,List.not_mem_nil,or_false] at hx
     rcases hx with rfl | rfl | rfl | rfl | rfl
     ·exact ⟨by decide,fun h => absurd h (by decide +kernel)⟩
     ·exact ⟨by decide,fun h => absurd h (by decide +kernel)⟩
     ·exact ⟨by decide,fun _ => by simp [nmK]⟩
     ·exact ⟨by decide,fun _ => by simp [nmK,namesL]⟩
     ·exact ⟨by omega,fun h => absurd h (fun h => by have:=(isKey_size h).2; omega)⟩
    clear hx
    go_wp2_with fail
    refine (C4.out.lw.value (by omega)).mono ?_
    rintro e W5 ⟨d,rfl,hd,Lq,gq⟩
    have C5:=Lib.hid (C4.out.asked Lq gq)
    have hsz : ds.length ≤ 4294967296:=by omega
    have hlen : ds.length + 1 ≤ 7:=by omega
    clear Lq gq C4
    generalize hv2 : Value.slice A ds.length cap = v2 at C5
    unfold vV
    have HOr:=Lib.hid C5.out.1.row
    have HST:=Lib.hid (fun v' W' o g1 at1 => C5.out.1.app (v':=v') (W':=W') (ds':=ds ++ [⟨nm,d⟩]) o g1 at1)
    have HGR : Hid (∀ (W' : World) (g1 : W5.grownBy W' v2.ownBlock) (b1 : Below W.heap.size W5 W'),W.grownBy W' (some bs)):=fun W' g1 b1 => fds_grown C5.out.2 g1 b1
    have hB9:=C5.out.1.2.2.2.2
    go_wp2_with (at_builtin; refine wpList_app_at rfl _ _ 28 rfl W.heap.size 78 i0 (.agg #[.string ⟨#[]⟩,.int .i64 0,.string ⟨#[]⟩,.int .i64 0]) 4 48 Tryz.underlying28 hi0 hz0 hz1 hz2 rfl (by decide) fFd _ ds rfl HOr.out ⟨nm,d⟩ #[.string nm,.int .i64 d.kind,.string d.text,.int .i64 d.num] 78 rfl rfl (by simp [Value.oneCell']) (by omega) (by omega) hB9 ?_; intro v1 w2 o1 g1 b1 at1; have CA:=Lib.hid (HST.out v1 w2 o1 g1 at1); have GA:=Lib.hid (HGR.out w2 g1 b1); clear o1 g1 b1 at1 HST HOr HGR)
    obtain ⟨A9,cap9,hv9,hle9⟩:=CA.out.row.slice
    have HF : Hid (FdPost w bs K H W (.returned v1) w2):=⟨_,_,rfl,CA.out.more (by omega),by simp; omega,hkb.out.snoc ⟨hns,hd⟩,GA.out⟩
    subst hv9
    clear CA GA
    go_wp2_with fail
    exact bodyPost_ret (by kernel_rfl) rfl HF.out
open Go.RowKit
theorem RM.beside {D : Type} {T k : Nat} {f : D → Nat → Value} {w W : World} {bs K : Nat} {H : Frz} {B : Nat} {v : Value} {ds : List D} (h : RM T k f w bs K H B v ds W) {g o : Nat} (hg : bs < g) (hH : H g = none) (hne : v.ownBlock ≠ some g) (x : Value) : RM T k f w bs K H B v ds (W.setCell ⟨g,o,none⟩ x) :=
 ⟨h.1.setCell (p:=⟨g,o,none⟩) hg hH x,h.2.1.kept (vm_setc (World.grownBy.refl _ _) o x) (Or.inr hne),h.2.2.1,h.2.2.2.1,by have:=h.2.2.2.2; simpa [World.setCell] using this⟩
def MsB (ds : List MsD) : Prop:=∀ d ∈ ds,d.name.size ≤ 1000
theorem MsB.snoc {ds : List MsD} (h : MsB ds) {d : MsD} (hd : d.name.size ≤ 1000) : MsB (ds ++ [d]):=by
 intro y hy
 rcases List.mem_append.1 hy with hy | hy
 ·exact h y hy
 ·simp at hy; rw [hy]; exact hd
theorem MsB.set {ds : List MsD} (h : MsB ds) {d : MsD} {p : Nat} (hd : d.name.size ≤ 1000) : MsB (ds.set p d):=by
 intro y hy
 rcases List.mem_or_eq_of_mem_set hy with hy | hy
 ·exact h y hy
 ·rw [hy]; exact hd
theorem infoMeas : (Tryz.prog.info? 119).map (fun i => (i.zero,i.size,i.bytes)) = some (some (.agg #[.string ⟨#[]⟩,.int .i64 0,.int .i64 0,.int .i64 0]),4,40):=by kernel_rfl
abbrev MsM:=RM (D:=MsD) 119 4 fMs
def MM (w : World) (bs K : Nat) (H : Frz) (W : World) (v : Value) (ds : List MsD) (wr : World) : Prop:=MsM w bs K H W.heap.size v ds wr ∧ W.grownBy wr (some bs)
def MsPost (w : World) (bs K : Nat) (H : Frz) (W : World) (e : Ending) (W' : World) : Prop:=∃ v ds,e = .returned v ∧ MM w bs (K + 100) H W v ds W' ∧ ds.length ≤ 3 ∧ MsB ds
section
variable {w W wr W' : World} {bs K K' : Nat} {H : Frz} {v : Value} {ds : List MsD}
theorem MM.lw (h : MM w bs K H W v ds wr) : Lw w bs K H wr:=h.1.lw
theorem MM.asked (h : MM w bs K H W v ds wr) (L : Lw w bs K' H W') (g : wr.grownBy W' (some bs)) : MM w bs K' H W v ds W':=⟨h.1.asked L g,vm_then h.2 g⟩
theorem MM.call (h : MM w bs K H W v ds wr) (hb : Below wr.heap.size wr W') : MM w bs K H W v ds W':=⟨h.1.call hb,vm_then h.2 (vm_below hb)⟩
theorem MM.alloc (h : MM w bs K H W v ds wr) (o : Obj) : MM w bs K H W v ds (wr.alloc o):=h.call (new1 o)
theorem MM.more (h : MM w bs K H W v ds wr) (hK : K ≤ K') : MM w bs K' H W v ds wr:=⟨h.1.more hK,h.2⟩
theorem MM.beside (h : MM w bs K H W v ds wr) {g o : Nat} (hg : bs < g) (hG : W.heap.size ≤ g) (hH : H g = none) (hne : v.ownBlock ≠ some g) (x : Value) : MM w bs K H W v ds (wr.setCell ⟨g,o,none⟩ x) :=
 ⟨h.1.beside hg hH hne x,⟨h.2.os,h.2.tape,h.2.output,by have:=h.2.size; simpa [World.setCell] using this,fun b hb hne2 => (Below.heap_setCell wr _ _ b (fun e => by simp only at e; omega)).trans (h.2.block b hb hne2)⟩⟩
end
theorem MM.upd {w W wr : World} {bs K : Nat} {H : Frz} {ds : List MsD} {go capg : Nat} (h : MM w bs K H W (.slice (some ⟨go,0,none⟩) ds.length capg) ds wr) (hG : W.heap.size ≤ go) (hp : 0 < ds.length) {j : Nat} (hj : j < 4) (d' : MsD) {x : Value} (hx : fMs d' j = x) (ho : ∀ m,m < 4 → m ≠ j → fMs d' m = fMs ds[0] m) :
  wr.cell? ⟨go,j,none⟩ = some (fMs ds[0] j) ∧ wr.frozen? ⟨go,j,none⟩ = false ∧ MM w bs K H W (.slice (some ⟨go,0,none⟩) ds.length capg) (ds.set 0 d') (wr.setCell ⟨go,j,none⟩ x):=by
 obtain ⟨h1,h2,h3⟩:=h.1.upd hp hj d' hx ho
 simp only [Nat.zero_mul,Nat.zero_add] at h1 h2 h3
 exact ⟨h1,h2,h3,⟨h.2.os,h.2.tape,h.2.output,by have:=h.2.size; simpa [World.setCell] using this,fun b hb hne2 => (Below.heap_setCell wr _ _ b (fun e => by simp only at e; omega)).trans (h.2.block b hb hne2)⟩⟩
theorem MM.upd2 {w W wr : World} {bs K : Nat} {H : Frz} {ds : List MsD} {go capg : Nat} (h : MM w bs K H W (.slice (some ⟨go,0,none⟩) ds.length capg) ds wr) (hG : W.heap.size ≤ go) (hp : 0 < ds.length) {i j : Nat} (hi : i < 4) (hj : j < 4) (hij : i ≠ j) (d1 d2 : MsD) {x y : Value} (hx : fMs d1 i = x) (hy : fMs d2 j = y) (h1 : ∀ m,m < 4 → m ≠ i → fMs d1 m = fMs ds[0] m) (h2 : ∀ m,m < 4 → m ≠ j → fMs d2 m = fMs d1 m) :
  wr.cell? ⟨go,i,none⟩ = some (fMs ds[0] i) ∧ wr.frozen? ⟨go,i,none⟩ = false ∧ wr.cell? ⟨go,j,none⟩ = some (fMs ds[0] j) ∧ wr.frozen? ⟨go,j,none⟩ = false ∧ MM w bs K H W (.slice (some ⟨go,0,none⟩) ds.length capg) (ds.set 0 d2) ((wr.setCell ⟨go,i,none⟩ x).setCell ⟨go,j,none⟩ y):=by
 obtain ⟨a1,a2,a3,a4,a5⟩:=h.1.upd2 hp hi hj hij d1 d2 hx hy h1 h2
 simp only [Nat.zero_mul,Nat.zero_add] at a1 a2 a3 a4 a5
 exact ⟨a1,a2,a3,a4,a5,⟨h.2.os,h.2.tape,h.2.output,by have:=h.2.size; simpa [World.setCell] using this,fun b hb hne2 => (Below.heap_setCell _ _ _ b (fun e => by simp only at e; omega)).trans ((Below.heap_setCell wr _ _ b (fun e => by simp only at e; omega)).trans (h.2.block b hb hne2))⟩⟩
theorem MM.none {w W wr : World} {bs K : Nat} {H : Frz} {v : Value} {ds : List MsD} (h : MM w bs K H W v ds wr) : MM w bs K H W (.slice none 0 0) [] wr :=
 ⟨⟨h.1.1,Orow.nil _ _ _ _ _,(fun g hg => by cases hg),h.1.2.2.2⟩,h.2⟩
structure MX (w : World) (bs K : Nat) (H : Frz) (W : World) (v : Value) (ds : List MsD) (g : Nat) (d : MsD) (wr : World) : Prop where
 m : MM w bs K H W v ds wr
 blk : wr.heap[g]? = some (.cells #[.string d.name,.int .i64 d.how,.int .i64 d.far,.int .i64 d.pts] 119 (0,0))
 bg : bs < g
 lo : W.heap.size ≤ g
 hg : H g = none
 ne : v.ownBlock ≠ some g
section
variable {w W wr W' : World} {bs K K' g : Nat} {H : Frz} {v : Value} {ds : List MsD} {d : MsD}
theorem MX.asked (h : MX w bs K H W v ds g d wr) (L : Lw w bs K' H W') (gr : wr.grownBy W' (some bs)) : MX w bs K' H W v ds g d W' :=
 ⟨h.m.asked L gr,(gr.block _ (lt_of_heap h.blk) (fun e => by injection e with e; have:=h.bg; omega)).trans h.blk,h.bg,h.lo,h.hg,h.ne⟩
theorem MX.alloc (h : MX w bs K H W v ds g d wr) (o : Obj) : MX w bs K H W v ds g d (wr.alloc o):=⟨h.m.alloc o,(heap_lt (lt_of_heap h.blk)).trans h.blk,h.bg,h.lo,h.hg,h.ne⟩
theorem MX.lw (h : MX w bs K H W v ds g d wr) : Lw w bs K H wr:=h.m.lw
theorem MX.more (h : MX w bs K H W v ds g d wr) (hK : K ≤ K') : MX w bs K' H W v ds g d wr:=⟨h.m.more hK,h.blk,h.bg,h.lo,h.hg,h.ne⟩
theorem MX.setF (h : MX w bs K H W v ds g d wr) (x : Int) : MX w bs K H W v ds g { d with far:=x } (wr.setCell ⟨g,2,none⟩ (.int .i64 x)) :=
 ⟨h.m.beside h.bg h.lo h.hg h.ne _,by simp [World.setCell,Array.getElem?_modify,h.blk],h.bg,h.lo,h.hg,h.ne⟩
end
theorem ms_set4 {wr : World} {r : Nat} {T : TypeId} {a0 a1 a2 a3 : Value} (h : wr.heap[r]? = some (.cells #[a0,a1,a2,a3] T (0,0))) (v0 v1 v2 v3 : Value) :
  ((((wr.setCell ⟨r,0,none⟩ v0).setCell ⟨r,1,none⟩ v1).setCell ⟨r,2,none⟩ v2).setCell ⟨r,3,none⟩ v3).heap[r]? = some (.cells #[v0,v1,v2,v3] T (0,0)):=by
 simp [World.setCell,Array.getElem?_modify,h]
def AtM (bs : Nat) (w : World) (g : Nat) (o : Obj) : Prop:=g ≠ bs ∧ w.heap[g]? = some o
theorem AtM.new {bs : Nat} {w : World} (o : Obj) (h : bs < w.heap.size) : AtM bs (w.alloc o) w.heap.size o:=⟨by omega,heap_at rfl⟩
theorem AtM.keep {bs g : Nat} {w w' : World} {o : Obj} (h : AtM bs w g o) (gr : w.grownBy w' (some bs)) : AtM bs w' g o:=⟨h.1,(gr.block _ (lt_of_heap h.2) (fun e => by injection e with e; exact h.1 e)).trans h.2⟩
def φM (bs B0 : Nat) (i : Nat) (x : Value) (W : World) : Prop :=
 match i with
 | 0 => x = .pointer (some ⟨bs,0,none⟩)
 | 1 => ∃ z : Nat,x = .int .i64 (z : Int) ∧ z < 6
 | 2 => ∃ z : Nat,x = .pointer (some ⟨0,z,none⟩) ∧ z < 6
 | 3 => ∃ s : ByteArray,x = .string s ∧ s.size ≤ 1000
 | 4 => x = .pointer (some ⟨bs,0,none⟩)
 | 5 => ∃ z : Int,x = .int .i64 z
 | 6 => x = .pointer (some ⟨bs,0,none⟩)
 | 7 => ∃ g,x = .slice (some ⟨g,0,none⟩) 4 4 ∧ AtM bs W g (.cells #[.int .i64 1,.int .i64 5,.int .i64 10,.int .i64 (-3)] 3 (0,0))
 | 8 => ∃ z : Int,x = .int .i64 z
 | 9 => ∃ (s : ByteArray) (h p : Int),x = .agg #[.string s,.int .i64 h,.int .i64 0,.int .i64 p] ∧ s.size ≤ 1000
 | _ => ∃ g,x = .pointer (some ⟨g,0,none⟩) ∧ B0 ≤ g ∧ AtM bs W g (.cells #[.string ⟨#[]⟩,.int .i64 0,.int .i64 0,.int .i64 0] 119 (0,0))
theorem φM_mono {bs B0 : Nat} (i : Nat) (x : Value) (W W' : World) (_ : i < 11) (he : W.grownBy W' (some bs)) (h : φM bs B0 i x W) : φM bs B0 i x W':=by
 match i with
 | 0 => exact h
 | 1 => exact h
 | 2 => exact h
 | 3 => exact h
 | 4 => exact h
 | 5 => exact h
 | 6 => exact h
 | 7 => obtain ⟨g,h1,h2⟩:=h; exact ⟨g,h1,h2.keep he⟩
 | 8 => exact h
 | 9 => exact h
 | n + 10 => obtain ⟨g,h1,h2,h3⟩:=h; exact ⟨g,h1,h2,h3.keep he⟩
theorem MM.drew {w W wr : World} {bs K : Nat} {H : Frz} {v : Value} {ds : List MsD} (h : MM w bs K H W v ds wr) : MM w bs K H W v ds wr.drew:=h.call ((Below.refl _ _).drew)
theorem MM.same {w W wr : World} {bs K k : Nat} {H : Frz} {v : Value} {ds : List MsD} (h : MM w bs (K + k) H W v ds wr) : MM w bs (K + (k + 1)) H W v ds wr:=h.more (by omega)
set_option maxHeartbeats 8000000 in
set_option maxRecDepth 100000 in
theorem Lw.measures {w W : World} {bs K : Nat} {H : Frz} (h : Lw w bs K H W) (hK : K ≤ 5000000) (hN : NamesIn H) :
  Calls Tryz.prog 11 #[.pointer (some ⟨bs,0,none⟩)] W (MsPost w bs K H W):=by
 obtain ⟨i0,hi0,hz0,hz1,hz2⟩:=info_parts infoMeas
 have hbs:=h.lt
 have C0 : Hid (MM w bs K H W (.slice none 0 0) [] W):=⟨RM.new h,World.grownBy.refl _ _⟩
 have HN:=Lib.hid hN
 clear h hN
 go_enter Tryz.func11,Tryz.ntmps11
 have hne:=C0.out.lw.lt
 have hIn : Ints (W.alloc (.cells #[.int .i64 1,.int .i64 1,.int .i64 2,.int .i64 3] 3)) (some ⟨W.heap.size,0,none⟩) [1,1,2,3]:=Ints.of_row (heap_at rfl) rfl
 have HIn:=Lib.hid hIn
 clear hIn
 go_wp2_with fail
 refine ((C0.out.alloc _).lw.pick _ _ [1,1,2,3] HIn.out (fun b off e => by injection e with e; injection e with e1 e2; omega) (by simp) (by simp) (by omega)).mono ?_
 rintro e W1 ⟨ct,rfl,hct,Lq,gq,-⟩
 have C1:=Lib.hid ((C0.out.alloc _).asked Lq gq)
 clear Lq gq HIn hne C0
 have hct2 : 1 ≤ ct ∧ ct ≤ 3:=by simp at hct; omega
 obtain ⟨cn,rfl⟩:=Int.eq_ofNat_of_zero_le (show (0 : Int) ≤ ct by omega)
 have hcn : 1 ≤ cn ∧ cn ≤ 3:=by omega
 clear hct hct2
 go_wp2_with fail
 go_loopw [3,9] (fun v t wr => ∃ (i : Nat) (ds : List MsD),i ≤ cn ∧ t = .int .i64 i ∧ Hid (MM w bs (K + 2 + 20 * i) H W v ds wr) ∧ ds.length = i ∧ Hid (MsB ds)) (fun _ t _ => cn - (intOf t).toNat)
 case atStart => exact ⟨0,[],by omega,rfl,C1.out.more (by omega),rfl,(by intro d hd; cases hd)⟩
 case round =>
  obtain ⟨i,ds,hi,rfl,C,hdl,hkb⟩:=hrel
  have HDL:=Lib.hid hdl
  have hd3 : ds.length ≤ 3:=by omega
  clear hdl
  clear C1
  obtain ⟨A,cap,hv,hle⟩:=C.out.1.row.slice
  subst hv
  by_cases hlt : i < cn
  ·have di : decide ((i : Int) < (cn : Int)) = true:=by simp; omega
   go_upto_region 4 with (fail)
   generalize hv2 : Value.slice A ds.length cap = v2 at C
   refine wp_region_conc 11 67 (φM bs wr.heap.size) (fun n W' => MM w bs (K + 2 + 20 * i + n) H W v2 ds W' ∧ wr.heap.size ≤ W'.heap.size) (fun a b => a.grownBy b (some bs)) (by kernel_rfl) (by kernel_rfl) (by rfl) ⟨C.out.drew,Nat.le_refl _⟩ φM_mono ?_ ?_
   ·intro n o hn ho a W2 kk hkk hJ hkn
    have hcs : n = 0 ∨ n = 1 ∨ n = 2 ∨ n = 3 ∨ n = 4 ∨ n = 5 ∨ n = 6 ∨ n = 7 ∨ n = 8 ∨ n = 9 ∨ n = 10:=by omega
    rcases hcs with rfl | rfl | rfl | rfl | rfl | rfl | rfl | rfl | rfl | rfl | rfl
    ·obtain rfl:=Option.some.inj ho
     exact ⟨hkn 0 (by decide),⟨hJ.1.same,hJ.2⟩,World.grownBy.refl _ _⟩
    ·obtain rfl:=Option.some.inj ho
     have h1:=slotA_of (hkn 11 (by decide) : a.tmps.getD 11 undef = .pointer (some ⟨bs,0,none⟩))
     clear hkn ho
     simp only [OpV,execOp]
     simp [go_sem,h1]
     exact (hJ.1.lw.next' 6 (by omega) (by omega) (by omega)).mono fun e w'' ⟨z,he,z0,z1,L',g',_⟩ => ⟨_,he,(by obtain ⟨y,rfl⟩:=Int.eq_ofNat_of_zero_le z0; exact ⟨y,rfl,by omega⟩),⟨hJ.1.asked L' g',by have:=hJ.2; have:=g'.size; omega⟩,g'⟩
    ·obtain rfl:=Option.some.inj ho
     obtain ⟨z,h1,hz⟩ : ∃ z : Nat,a.tmps.getD 12 undef = .int .i64 (z : Int) ∧ z < 6:=hkn 12 (by decide)
     replace h1:=slotA_of h1
     clear hkn ho
     simp only [OpV,execOp]
     have hz2 : (z : Int) < 6:=by omega
     simp [go_sem,h1,hz2]
     exact ⟨⟨z,rfl,hz⟩,⟨hJ.1.same,hJ.2⟩,World.grownBy.refl _ _⟩
    ·obtain rfl:=Option.some.inj ho
     obtain ⟨z,h1,hz⟩ : ∃ z : Nat,a.tmps.getD 13 undef = .pointer (some ⟨0,z,none⟩) ∧ z < 6:=hkn 13 (by decide)
     replace h1:=slotA_of h1
     have hc:=hJ.1.lw.fin.cell (HN.out z hz)
     have hs:=names_size (List.getElem_mem (show z < namesL.length from hz))
     generalize namesL[z] = nm at hc hs
     clear hkn ho
     simp only [OpV,execOp]
     simp [go_sem,h1,hc]
     exact ⟨⟨nm,rfl,hs⟩,⟨hJ.1.same,hJ.2⟩,World.grownBy.refl _ _⟩
    ·obtain rfl:=Option.some.inj ho
     exact ⟨hkn 0 (by decide),⟨hJ.1.same,hJ.2⟩,World.grownBy.refl _ _⟩
    ·obtain rfl:=Option.some.inj ho
     have h1:=slotA_of (hkn 15 (by decide) : a.tmps.getD 15 undef = .pointer (some ⟨bs,0,none⟩))
     clear hkn ho
     simp only [OpV,execOp]
     simp [go_sem,h1]
     exact (hJ.1.lw.range 1 3 (by omega) (by omega) (by omega) (by omega)).mono fun e w'' ⟨z,he,z0,z1,L',g',_⟩ => ⟨_,he,⟨z,rfl⟩,⟨hJ.1.asked L' g',by have:=hJ.2; have:=g'.size; omega⟩,g'⟩
    ·obtain rfl:=Option.some.inj ho
     exact ⟨hkn 0 (by decide),⟨hJ.1.same,hJ.2⟩,World.grownBy.refl _ _⟩
    ·obtain rfl:=Option.some.inj ho
     clear hkn ho
     simp only [OpV,execOp]
     simp [go_sem]
     exact ⟨⟨W2.heap.size,rfl,AtM.new _ hJ.1.lw.lt⟩,⟨(hJ.1.alloc _).same,by have:=hJ.2; omega⟩,grown_alloc _ _⟩
    ·obtain rfl:=Option.some.inj ho
     have h1:=slotA_of (hkn 17 (by decide) : a.tmps.getD 17 undef = .pointer (some ⟨bs,0,none⟩))
     obtain ⟨g,h2,h3⟩ : ∃ g,a.tmps.getD 18 undef = .slice (some ⟨g,0,none⟩) 4 4 ∧ AtM bs W2 g (.cells #[.int .i64 1,.int .i64 5,.int .i64 10,.int .i64 (-3)] 3 (0,0)):=hkn 18 (by decide)
     replace h2:=slotA_of h2
     clear hkn ho
     simp only [OpV,execOp]
     simp [go_sem,h1,h2]
     exact (hJ.1.lw.pick (some ⟨g,0,none⟩) 4 [1,5,10,-3] (Ints.of_row h3.2 rfl) (fun b off e => by injection e with e; injection e with e1 e2; rw [← e1]; exact h3.1) (by simp) (by simp) (by omega)).mono fun e w'' ⟨z,he,_,L',g',hz'⟩ => ⟨_,he,⟨z,rfl⟩,⟨hJ.1.asked L' g',by have:=hJ.2; have:=g'.size; omega⟩,g'⟩
    ·obtain rfl:=Option.some.inj ho
     obtain ⟨s,h1,hs⟩ : ∃ s : ByteArray,a.tmps.getD 14 undef = .string s ∧ s.size ≤ 1000:=hkn 14 (by decide)
     obtain ⟨hh,h2⟩ : ∃ z : Int,a.tmps.getD 16 undef = .int .i64 z:=hkn 16 (by decide)
     obtain ⟨p,h3⟩ : ∃ z : Int,a.tmps.getD 19 undef = .int .i64 z:=hkn 19 (by decide)
     replace h1:=slotA_of h1
     replace h2:=slotA_of h2
     replace h3:=slotA_of h3
     clear hkn ho
     simp only [OpV,execOp]
     simp [go_sem,h1,h2,h3]
     exact ⟨⟨s,hh,p,rfl,hs⟩,⟨hJ.1.same,hJ.2⟩,World.grownBy.refl _ _⟩
    ·obtain rfl:=Option.some.inj ho
     clear hkn ho
     simp only [OpV,execOp]
     simp [go_sem]
     exact ⟨⟨W2.heap.size,rfl,hJ.2,AtM.new _ hJ.1.lw.lt⟩,⟨(hJ.1.alloc _).same,by have:=hJ.2; omega⟩,grown_alloc _ _⟩
   ·intro x W5 hJ5 hφ
    obtain ⟨nm,hh,pp,e9,hnm⟩ : ∃ (s : ByteArray) (h p : Int),x 9 = .agg #[.string s,.int .i64 h,.int .i64 0,.int .i64 p] ∧ s.size ≤ 1000:=hφ 9 (by omega)
    obtain ⟨g,e10,hBg,hat⟩ : ∃ g,x 10 = .pointer (some ⟨g,0,none⟩) ∧ wr.heap.size ≤ g ∧ AtM bs W5 g (.cells #[.string ⟨#[]⟩,.int .i64 0,.int .i64 0,.int .i64 0] 119 (0,0)):=hφ 10 (by omega)
    have hbg : bs < g:=by have:=C.out.1.lw.lt; omega
    have hlo : W.heap.size ≤ g:=Nat.le_trans C.out.2.size hBg
    have hHg : H g = none:=C.out.lw.fin.none_ hBg
    have hneg : v2.ownBlock ≠ some g:=fun e => by have:=(C.out.1.row.lt e).2; omega
    have D0 : Hid (MX w bs (K + 2 + 20 * i + 11) H W v2 ds g ⟨nm,hh,0,pp⟩ ((((W5.setCell ⟨g,0,none⟩ (.string nm)).setCell ⟨g,1,none⟩ (.int .i64 hh)).setCell ⟨g,2,none⟩ (.int .i64 0)).setCell ⟨g,3,none⟩ (.int .i64 pp))) :=
     ⟨(((hJ5.1.beside hbg hlo hHg hneg _).beside hbg hlo hHg hneg _).beside hbg hlo hHg hneg _).beside hbg hlo hHg hneg _,ms_set4 hat.2 _ _ _ _,hbg,hlo,hHg,hneg⟩
    have c0:=cell_h hat.2 0 (v:=.string ⟨#[]⟩) rfl
    have c1:=cell_h hat.2 1 (v:=.int .i64 0) rfl
    have c2:=cell_h hat.2 2 (v:=.int .i64 0) rfl
    have c3:=cell_h hat.2 3 (v:=.int .i64 0) rfl
    have f0:=froz_h hat.2 0
    have f1:=froz_h hat.2 1
    have f2:=froz_h hat.2 2
    have f3:=froz_h hat.2 3
    clear hφ hJ5 hat hBg hbg hlo hHg hneg C
    simp only [List.drop_succ_cons,List.drop_zero,List.take_succ_cons,List.take_zero,putAll,Nat.reduceAdd,e9,e10]
    clear e9 e10
    generalize x 0 = y0
    generalize x 1 = y1
    generalize x 2 = y2
    generalize x 3 = y3
    generalize x 4 = y4
    generalize x 5 = y5
    generalize x 6 = y6
    generalize x 7 = y7
    generalize x 8 = y8
    go_upto_region 5 with (fail)
    generalize (((W5.setCell ⟨g,0,none⟩ (.string nm)).setCell ⟨g,1,none⟩ (.int .i64 hh)).setCell ⟨g,2,none⟩ (.int .i64 0)).setCell ⟨g,3,none⟩ (.int .i64 pp) = W6 at *
    clear c0 c1 c2 c3 f0 f1 f2 f3
    have k1:=cell_h D0.out.blk 1 (v:=.int .i64 hh) rfl
    go_upto_if 23 with (fail)
    clear k1
    obtain ⟨q,hq⟩ : ∃ q,(hh != 1) = q:=⟨_,rfl⟩
    rw [hq]
    clear hq
    go_cut [] (fun wx => ∃ d : MsD,d.name.size ≤ 1000 ∧ Hid (MX w bs (K + 2 + 20 * i + 12) H W v2 ds g d wx))
    case first =>
     cases q with
     | false =>
      go_wp2_with fail
      go_meet
      exact ⟨_,hnm,D0.out.more (by omega)⟩
     | true =>
      have hne:=D0.out.lw.lt
      have hIn : Ints (W6.alloc (.cells #[.int .i64 1,.int .i64 2,.int .i64 3,.int .i64 20] 3)) (some ⟨W6.heap.size,0,none⟩) [1,2,3,20]:=Ints.of_row (heap_at rfl) rfl
      have HIn:=Lib.hid hIn
      clear hIn
      go_wp2_with fail
      refine ((D0.out.alloc _).lw.pick _ _ [1,2,3,20] HIn.out (fun b off e => by injection e with e; injection e with e1 e2; omega) (by simp) (by simp) (by omega)).mono ?_
      rintro e W7 ⟨x,rfl,hx,Lq,gq,-⟩
      have D1:=Lib.hid ((D0.out.alloc _).asked Lq gq)
      clear Lq gq HIn hne D0
      have D2:=Lib.hid (D1.out.setF x)
      clear hx
      have hc2:=cell_h D1.out.blk 2 (v:=.int .i64 0) rfl
      have hf2:=froz_h D1.out.blk 2
      go_wp2_with fail
      go_meet
      exact ⟨_,hnm,D2.out.more (by omega)⟩
    case rest =>
     obtain ⟨d,hdn,D1⟩:=hcut
     clear D0
     have k0:=cell_h D1.out.blk 0 (v:=.string d.name) rfl
     have k1:=cell_h D1.out.blk 1 (v:=.int .i64 d.how) rfl
     have k2:=cell_h D1.out.blk 2 (v:=.int .i64 d.far) rfl
     have k3:=cell_h D1.out.blk 3 (v:=.int .i64 d.pts) rfl
     have HOr:=Lib.hid D1.out.m.1.row
     have HST:=Lib.hid (fun v' W' o g1 at1 => D1.out.m.1.app (v':=v') (W':=W') (ds':=ds ++ [d]) o g1 at1)
     have HGR : Hid (∀ (W' : World) (g1 : wc.grownBy W' v2.ownBlock) (b1 : Below W.heap.size wc W'),W.grownBy W' (some bs)):=fun W' g1 b1 => fds_grown D1.out.m.2 g1 b1
     have hB9:=D1.out.m.1.2.2.2.2
     have hsz : ds.length ≤ 4294967296:=by omega
     go_wp2_with (at_builtin; refine wpList_app_at rfl _ _ 26 rfl W.heap.size 119 i0 (.agg #[.string ⟨#[]⟩,.int .i64 0,.int .i64 0,.int .i64 0]) 4 40 Tryz.underlying26 hi0 hz0 hz1 hz2 rfl (by decide) fMs _ ds rfl HOr.out d #[.string d.name,.int .i64 d.how,.int .i64 d.far,.int .i64 d.pts] 119 rfl rfl (by simp [Value.oneCell']) (by omega) (by omega) hB9 ?_; intro v1 w2 o1 g1 b1 at1; have CA:=Lib.hid (HST.out v1 w2 o1 g1 at1); have GA:=Lib.hid (HGR.out w2 g1 b1); clear o1 g1 b1 at1 HST HOr HGR)
     go_roundw
     case rel => exact ⟨i + 1,_,by omega,by go_num,⟨CA.out.more (by omega),GA.out⟩,by rw [List.length_append,HDL.out]; rfl,hkb.out.snoc hdn⟩
     case measure => simp [intOf]; omega
  ·have hie : i = cn:=by omega
   subst hie
   have HL : ds.length ≤ 3:=hd3
   go_wp2_with fail
   refine (C.out.lw.flip 15 (by omega) (by omega)).mono ?_
   rintro e W2 ⟨fb,rfl,Lq,gq,-⟩
   have C2:=Lib.hid (C.out.asked Lq gq)
   clear Lq gq C
   cases fb with
   | false =>
    have HF : Hid (MsPost w bs K H W (.returned (.slice A ds.length cap)) W2):=⟨_,ds,rfl,C2.out.more (by omega),HL,hkb.out⟩
    clear C2
    go_wp2_with fail
    exact bodyPost_ret (by kernel_rfl) rfl HF.out
   | true =>
    have hds : ds ≠ []:=by intro e; have:=HDL.out; rw [e] at this; simp at this; omega
    obtain ⟨go,capg,rest,hv,hleg,hBg,hglt,hmg,hblk,hrg⟩:=C2.out.1.row.form hds
    injection hv with e1 _ e2
    subst e1 e2
    have hpl : 0 < ds.length:=List.length_pos_iff.2 hds
    have hkp:=hkb.out _ (List.getElem_mem hpl)
    clear hblk hglt hrg hmg
    go_wp2_with fail
    refine (C2.out.lw.next' 4 (by omega) (by omega) (by omega)).mono ?_
    rintro e W3 ⟨sw,rfl,sw0,sw1,Lq,gq,-⟩
    have C3:=Lib.hid (C2.out.asked Lq gq)
    clear Lq gq C2
    have hcs : sw = 0 ∨ sw = 1 ∨ sw = 2 ∨ (sw ≠ 0 ∧ sw ≠ 1 ∧ sw ≠ 2):=by omega
    rcases hcs with rfl | rfl | rfl | ⟨n0,n1,n2⟩
    ·skip
     have hne:=C3.out.lw.lt
     have hSt : StrsW (W3.alloc (.cells #[.string ⟨#[]⟩,.string ⟨#[65]⟩] 9)) (some ⟨W3.heap.size,0,none⟩) [⟨#[]⟩,⟨#[65]⟩]:=StrsW.of_row (heap_at rfl) rfl
     have HSt:=Lib.hid hSt
     clear hSt
     go_wp2_with fail
     refine ((C3.out.alloc _).lw.one _ _ [⟨#[]⟩,⟨#[65]⟩] HSt.out (fun b off e => by injection e with e; injection e with e1 e2; omega) (by simp) (by simp) (by omega)).mono ?_
     rintro e W4 ⟨z,rfl,hz,Lq,gq,-⟩
     have C4:=Lib.hid ((C3.out.alloc _).asked Lq gq)
     clear Lq gq HSt hne C3
     obtain ⟨cell1,fr1,fin1⟩:=C4.out.upd hBg hpl (j:=0) (by omega) ⟨z,ds[0].how,ds[0].far,ds[0].pts⟩ (x:=.string z) rfl (by intro m hm hne; have : m = 1 ∨ m = 2 ∨ m = 3:=(by omega); rcases this with rfl | rfl | rfl <;> rfl)
     have HF : Hid (MsPost w bs K H W (.returned (.slice (some ⟨go,0,none⟩) ds.length cap)) (W4.setCell ⟨go,0,none⟩ (.string z))):=⟨_,_,rfl,fin1.more (by omega),by simpa using HL,hkb.out.set (sizeK hz (by decide +kernel))⟩
     clear C4 fin1 hz
     go_wp2_with fail
     exact bodyPost_ret (by kernel_rfl) rfl HF.out
    ·skip
     go_wp2_with fail
     refine (C3.out.lw.odd (by omega) 1 3 (by omega) (by omega) (by omega)).mono ?_
     rintro e W4 ⟨z,rfl,-,-,Lq,gq⟩
     have C4:=Lib.hid (C3.out.asked Lq gq)
     clear Lq gq C3
     go_wp2_with fail
     refine (C4.out.lw.odd (by omega) 0 20 (by omega) (by omega) (by omega)).mono ?_
     rintro e W5 ⟨y,rfl,-,-,Lq,gq⟩
     have C5:=Lib.hid (C4.out.asked Lq gq)
     clear Lq gq C4
     obtain ⟨cell1,fr1,cell2,fr2,fin2⟩:=C5.out.upd2 hBg hpl (i:=1) (j:=2) (by omega) (by omega) (by omega) ⟨ds[0].name,z,ds[0].far,ds[0].pts⟩ ⟨ds[0].name,z,y,ds[0].pts⟩ (x:=.int .i64 z) (y:=.int .i64 y) rfl rfl (by intro m hm hne; have : m = 0 ∨ m = 2 ∨ m = 3:=(by omega); rcases this with rfl | rfl | rfl <;> rfl) (by intro m hm hne; have : m = 0 ∨ m = 1 ∨ m = 3:=(by omega); rcases this with rfl | rfl | rfl <;> rfl)
     have HF : Hid (MsPost w bs K H W (.returned (.slice (some ⟨go,0,none⟩) ds.length cap)) ((W5.setCell ⟨go,1,none⟩ (.int .i64 z)).setCell ⟨go,2,none⟩ (.int .i64 y))):=⟨_,_,rfl,fin2.more (by omega),by simpa using HL,hkb.out.set hkp⟩
     clear C5 fin2
     go_wp2_with fail
     exact bodyPost_ret (by kernel_rfl) rfl HF.out
    ·skip
     go_wp2_with fail
     refine (C3.out.lw.odd (by omega) (-1000) 1000 (by omega) (by omega) (by omega)).mono ?_
     rintro e W4 ⟨z,rfl,-,-,Lq,gq⟩
     have C4:=Lib.hid (C3.out.asked Lq gq)
     clear Lq gq C3
     obtain ⟨cell1,fr1,fin1⟩:=C4.out.upd hBg hpl (j:=3) (by omega) ⟨ds[0].name,ds[0].how,ds[0].far,z⟩ (x:=.int .i64 z) rfl (by intro m hm hne; have : m = 0 ∨ m = 1 ∨ m = 2:=(by omega); rcases this with rfl | rfl | rfl <;> rfl)
     have HF : Hid (MsPost w bs K H W (.returned (.slice (some ⟨go,0,none⟩) ds.length cap)) (W4.setCell ⟨go,3,none⟩ (.int .i64 z))):=⟨_,_,rfl,fin1.more (by omega),by simpa using HL,hkb.out.set hkp⟩
     clear C4 fin1
     go_wp2_with fail
     exact bodyPost_ret (by kernel_rfl) rfl HF.out
    ·skip
     have q0 : (sw == 0) = false:=by simpa using n0
     have q1 : (sw == 1) = false:=by simpa using n1
     have q2 : (sw == 2) = false:=by simpa using n2
     have HF : Hid (MsPost w bs K H W (.returned (.slice none 0 0)) W3):=⟨_,[],rfl,C3.out.none.more (by omega),by simp,by intro d hd; cases hd⟩
     go_wp2_with fail
     exact bodyPost_ret (by kernel_rfl) rfl HF.out
end Go.Proofs.YtbidhpgjmcedaaaGreatDoor
