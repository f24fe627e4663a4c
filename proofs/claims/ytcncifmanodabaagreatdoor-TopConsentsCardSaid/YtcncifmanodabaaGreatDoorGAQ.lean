/- Texts of this claim, put together: MakePol, MakeSt. -/
import Derived.Test.YtcncifmanodabaaGreatDoorGAO
import Derived.Test.YtcncifmanodabaaGreatDoorGAP
import Derived.Test.YtcncifmanodabaaGreatDoorGAM
import Derived.Test.YtcncifmanodabaaGreatDoorGAG
import Derived.Test.YtcncifmanodabaaGreatDoorGAL
namespace Go.Proofs.YtcncifmanodabaaGreatDoor
set_option linter.unusedVariables false
open Go.RowKit
theorem infoTer:(Tryz.prog.info? 68).map (fun i => (i.zero,i.size,i.bytes)) = some (some (.agg #[.string ⟨#[]⟩,.int .i64 0,.bool false,.int .i64 0,.int .i64 0]),5,48):=by kernel_rfl
theorem infoPur:(Tryz.prog.info? 66).map (fun i => (i.zero,i.size,i.bytes)) = some (some (.agg #[.string ⟨#[]⟩,.slice none 0 0]),2,40):=by kernel_rfl
structure PMs (w:World) (bs K:Nat) (H:Frz) (B:Nat) (v:Value) (ps:List PurD) (pb:Nat) (nm:ByteArray) (At:Option Addr) (ct:Nat) (ts:List TermD) (W:World):Prop where
 rm:RM 66 2 fPu w bs K H B v ps W
 cell:W.heap[pb]? = some (.cells #[.string nm,.slice At ts.length ct] 66 (0,0))
 row:Orow W (pb + 1) 68 5 fTe (.slice At ts.length ct) ts
 own:∀ g,v.ownBlock = some g → g < pb
 low:B ≤ pb
 hpb:H pb = none
 hown:∀ g,(Value.slice At ts.length ct).ownBlock = some g → H g = none
section
variable {w:World} {bs K K':Nat} {H:Frz} {B:Nat} {v:Value} {ps:List PurD} {pb:Nat} {nm:ByteArray} {At:Option Addr} {ct:Nat} {ts:List TermD} {W W':World}
theorem PMs.lt (h:PMs w bs K H B v ps pb nm At ct ts W):pb < W.heap.size:=lt_of_heap h.cell
theorem PMs.bs_lt (h:PMs w bs K H B v ps pb nm At ct ts W):bs < pb:=by have:=h.rm.2.2.2.1;have:=h.low;omega
theorem PMs.new (h:RM 66 2 fPu w bs K H B v ps W) (nm:ByteArray):PMs w bs K H B v ps W.heap.size nm none 0 [] (W.alloc (.cells #[.string nm,.slice none 0 0] 66)) :=
 ⟨h.alloc _,heap_alloc_new _ _,Orow.nil _ _ _ _ _,fun g hg => (h.2.1.lt hg).2,h.2.2.2.2,h.1.fin.none_ (Nat.le_refl _),fun g hg => by cases hg⟩
theorem PMs.asked (h:PMs w bs K H B v ps pb nm At ct ts W) (L:Lw w bs K' H W') (g:W.grownBy W' (some bs)):PMs w bs K' H B v ps pb nm At ct ts W' :=
 ⟨h.rm.asked L g,(g.block pb h.lt (fun e => by injection e with e;have:=h.bs_lt;omega)).trans h.cell,h.row.far g (by have:=h.bs_lt;omega),h.own,h.low,h.hpb,h.hown⟩
theorem PMs.more (h:PMs w bs K H B v ps pb nm At ct ts W) (hK:K ≤ K'):PMs w bs K' H B v ps pb nm At ct ts W:=⟨h.rm.more hK,h.cell,h.row,h.own,h.low,h.hpb,h.hown⟩
theorem PMs.alloc (h:PMs w bs K H B v ps pb nm At ct ts W) (o:Obj):PMs w bs K H B v ps pb nm At ct ts (W.alloc o) :=
 ⟨h.rm.alloc o,(heap_lt h.lt).trans h.cell,h.row.below (new1 o),h.own,h.low,h.hpb,h.hown⟩
theorem PMs.other (h:PMs w bs K H B v ps pb nm At ct ts W) {g o:Nat} (hg:pb < g) (hH:H g = none) (hne:(Value.slice At ts.length ct).ownBlock ≠ some g) (x:Value):PMs w bs K H B v ps pb nm At ct ts (W.setCell ⟨g,o,none⟩ x):=by
 have hgr:W.grownBy (W.setCell ⟨g,o,none⟩ x) (some g):=grown_setC (World.grownBy.refl _ _) o x
 have hb:=h.bs_lt
 have hlow:=h.low
 refine ⟨⟨h.rm.1.setCell (p:=⟨g,o,none⟩) (by show bs < g;omega) hH x,h.rm.2.1.kept hgr (Or.inr (fun e => by have:=h.own g e;omega)),h.rm.2.2.1,h.rm.2.2.2.1,by have:=h.rm.2.2.2.2;simpa [World.setCell] using this⟩,(hgr.block pb h.lt (fun e => by injection e with e;omega)).trans h.cell,h.row.kept hgr (Or.inr hne),h.own,h.low,h.hpb,h.hown⟩
theorem PMs.app (h:PMs w bs K H B v ps pb nm At ct ts W) {At':Option Addr} {ct':Nat} {t:TermD} (o:Orow W' (pb + 1) 68 5 fTe (.slice At' (ts ++ [t]).length ct') (ts ++ [t])) (g1:W.grownBy W' (Value.slice At ts.length ct).ownBlock)
  (at1:(Value.slice At' (ts ++ [t]).length ct').ownBlock = (Value.slice At ts.length ct).ownBlock ∨ ∃ g,(Value.slice At' (ts ++ [t]).length ct').ownBlock = some g ∧ W.heap.size < g) :
  W'.heap[pb]? = some (.cells #[.string nm,.slice At ts.length ct] 66 (0,0)) ∧ PMs w bs K H B v ps pb nm At' ct' (ts ++ [t]) (W'.setCell ⟨pb,1,none⟩ (.slice At' (ts ++ [t]).length ct')):=by
 have hown:∀ q,(Value.slice At ts.length ct).ownBlock = some q → bs < q ∧ H q = none:=fun q hq => ⟨by have:=(h.row.lt hq).1;have:=h.bs_lt;omega,h.hown q hq⟩
 have hcell:W'.heap[pb]? = some (.cells #[.string nm,.slice At ts.length ct] 66 (0,0)):=(g1.block pb h.lt (fun e => by have:=(h.row.lt e.symm).1;omega)).trans h.cell
 have hL:Lw w bs K H W':=h.rm.1.grown g1 hown
 have hgr:W'.grownBy (W'.setCell ⟨pb,1,none⟩ (.slice At' (ts ++ [t]).length ct')) (some pb):=grown_setC (World.grownBy.refl _ _) 1 _
 have hlow:=h.low
 have hb:=h.bs_lt
 refine ⟨hcell,⟨hL.setCell (p:=⟨pb,1,none⟩) h.bs_lt h.hpb _,?_,h.rm.2.2.1,h.rm.2.2.2.1,?_⟩,?_,?_,h.own,h.low,h.hpb,?_⟩
 ·refine Orow.kept (h.rm.2.1.kept g1 ?_) hgr (Or.inr (fun e => by have:=h.own pb e;omega))
  cases e:v.ownBlock with
  | none => exact Or.inl rfl
  | some q =>
   right
   intro c
   have h1:=h.own q e
   have h2:=(h.row.lt c.symm).1
   omega
 ·have:=h.rm.2.2.2.2
  have:=g1.size
  simp [World.setCell];omega
 ·simp [World.setCell,Array.getElem?_modify,hcell]
 ·refine o.kept hgr ?_
  cases e:(Value.slice At' (ts ++ [t]).length ct').ownBlock with
  | none => exact Or.inl rfl
  | some q => right;intro c;injection c with c;have:=(o.lt e).1;omega
 ·intro q hq
  rcases at1 with at1 | ⟨g,at1,hg⟩
  ·exact (hown q (by rw [← at1];exact hq)).2
  ·rw [at1] at hq
   injection hq with hq
   exact h.rm.1.fin.none_ (by omega)
theorem PMs.put (h:PMs w bs K H B v ps pb nm At ct ts W) (o:Obj):∃ H',H.Le H' ∧ H' W.heap.size = some o ∧ PMs w bs K H' B v ps pb nm At ct ts (W.alloc o):=by
 have hn:=h.rm.1.fin.none_ (Nat.le_refl W.heap.size)
 have hl:=h.lt
 have hb:=h.bs_lt
 have ho:∀ {g:Nat},g < W.heap.size → H g = none → (H.add W.heap.size o) g = none:=fun hg h0 => by rw [Frz.add_other (by omega)];exact h0
 refine ⟨H.add W.heap.size o,Frz.le_add hn,Frz.add_at _ _ _,⟨(h.rm.1.alloc o).keep (heap_at rfl) (by omega),(h.alloc o).rm.2.1,fun g hg => ho (h.rm.2.1.lt hg).2 (h.rm.2.2.1 g hg),h.rm.2.2.2.1,(h.alloc o).rm.2.2.2.2⟩,(h.alloc o).cell,(h.alloc o).row,h.own,h.low,ho h.lt h.hpb,fun g hg => ho (h.row.lt hg).2 (h.hown g hg)⟩
end
def OkJ (j:Nat) (ts:List TermD):Prop:=if j = 0 then OkTs 0 1 ts else if j = 1 then OkTs 1 1 ts else OkTs 1 5 ts
theorem names3 (i:Nat) (h:i < 3):(#[.string ⟨#[98,105,108,108]⟩,.string ⟨#[110,101,119,115]⟩,.string ⟨#[115,97,108,101]⟩]:Array Value)[i]? = some (.string (pnm i)):=by
 have:i = 0 ∨ i = 1 ∨ i = 2:=by omega
 rcases this with rfl | rfl | rfl <;> rfl
theorem regs2 (i:Nat) (h:i < 2):(#[.string ⟨#[101,117]⟩,.string ⟨#[117,115]⟩]:Array Value)[i]? = some (.string (reg i)):=by
 have:i = 0 ∨ i = 1:=by omega
 rcases this with rfl | rfl <;> rfl
theorem reg_key (j:Nat):isKey (reg j) = true:=by
 unfold reg
 split <;> decide +kernel
def PolPost (w:World) (bs K:Nat) (H:Frz) (e:Ending) (W':World):Prop:=∃ A cap ps H',e = .returned (.slice A ps.length cap) ∧ Lw w bs (K + 200) H' W' ∧ H.Le H' ∧ PolIn H' A ps ∧ polErr ps = 0 ∧ 0 < ps.length ∧ ps.length ≤ 3 ∧ ps.length ≤ cap
set_option maxHeartbeats 8000000 in
set_option maxRecDepth 100000 in
theorem Lw.rightPolicy {w W:World} {bs K:Nat} {H:Frz} (h:Lw w bs K H W) (hK:K ≤ 1000000) :
  Calls Tryz.prog 5 #[.pointer (some ⟨bs,0,none⟩)] W (PolPost w bs K H):=by
 obtain ⟨i0,hi0,hz0,hz1,hz2⟩:=info_parts infoTer
 obtain ⟨j0,hj0,hy0,hy1,hy2⟩:=info_parts infoPur
 obtain ⟨H1,le1,hn1,L1⟩:=h.put (.cells #[.string ⟨#[98,105,108,108]⟩,.string ⟨#[110,101,119,115]⟩,.string ⟨#[115,97,108,101]⟩] 9)
 have C0:=Lib.hid (RM.new (T:=66) (k:=2) (f:=fPu) L1)
 have HN1:=Lib.hid hn1
 have HLE1:=Lib.hid le1
 have hbs:=h.lt
 rw [sizeA] at C0
 have HPS0:Hid (OkPs 0 [] ∧ ∀ p ∈ ([]:List PurD),Rw H1 p.adr 5 fTe p.terms):=⟨OkPs.nil,fun p hp => by cases hp⟩
 have HLE0:Hid (H1.Le H1):=Frz.Le.refl _
 clear h L1 hn1 le1
 go_enter Tryz.func5,Tryz.ntmps5
 go_wp2_with fail
 generalize W.alloc (.cells #[.string ⟨#[98,105,108,108]⟩,.string ⟨#[110,101,119,115]⟩,.string ⟨#[115,97,108,101]⟩] 9) = W1 at C0
 go_loopw [3,13] (fun v t wr => ∃ (i:Nat) (H':Frz) (ps:List PurD),i ≤ 3 ∧ t = .int .i64 i ∧ Hid (H1.Le H') ∧ Hid (RM 66 2 fPu w bs (K + 40 * i) H' (W.heap.size + 1) v ps wr) ∧ Hid (OkPs i ps ∧ ∀ p ∈ ps,Rw H' p.adr 5 fTe p.terms)) (fun _ t _ => 3 - (intOf t).toNat)
 case atStart => exact ⟨0,H1,[],by omega,rfl,HLE0,C0,HPS0⟩
 case round =>
  obtain ⟨i,H2,ps,hi,rfl,hle,C,hps⟩:=hrel
  clear C0 HPS0 HLE0
  by_cases hlt:i < 3
  ·have di:decide ((i:Int) < 3) = true:=by simp;omega
   have cn:wr.cell? ⟨W.heap.size,i,none⟩ = some (.string (pnm i)):=cell_h (C.out.lw.fin _ _ (hle.out _ _ HN1.out)) i (names3 i hlt)
   go_wp2_with fail
   clear cn
   refine (C.out.lw.flip 4 (by omega) (by omega)).mono ?_
   rintro e W2 ⟨t,rfl,Lq,gq,-⟩
   have C2:=Lib.hid (C.out.asked Lq gq)
   clear Lq gq C
   cases t with
   | true =>
    have HP2:Hid (OkPs (i + 1) ps ∧ ∀ p ∈ ps,Rw H2 p.adr 5 fTe p.terms):=⟨hps.out.1.skip,hps.out.2⟩
    go_wp2_with fail
    go_roundw
    case rel => exact ⟨i + 1,H2,ps,by omega,by go_num,hle,C2.out.more (by omega),HP2⟩
    case measure => simp [intOf];omega
   | false =>
    generalize hnm:pnm i = nm
    have HNM:=Lib.hid hnm
    clear hnm
    have C3:=PMs.new C2.out nm
    obtain ⟨H3,le3,hr3,C4⟩:=C3.put (.cells #[.string ⟨#[101,117]⟩,.string ⟨#[117,115]⟩] 9)
    have hs3:(W2.alloc (.cells #[.string nm,.slice none 0 0] 66)).heap.size = W2.heap.size + 1:=sizeA _ _
    rw [hs3] at hr3
    have HR3:=Lib.hid hr3
    have HLE3:=Lib.hid le3
    have C4:=Lib.hid C4
    clear C3 le3 hr3 hs3 C2
    go_upto_region 7 with (fail)
    generalize hpb:W2.heap.size = pb at *
    have HJ0:Hid (OkJ 0 []):=OkTs.nil
    go_wp2_with fail
    generalize (W2.alloc (.cells #[.string nm,.slice none 0 0] 66)).alloc (.cells #[.string ⟨#[101,117]⟩,.string ⟨#[117,115]⟩] 9) = W5 at *
    have HPB:=Lib.hid hpb
    clear hpb
    obtain ⟨wo1,rfl⟩:∃ wo:World,wo = wr:=⟨_,rfl⟩
    obtain ⟨vg,rfl⟩:∃ vg:Value,vg = u3:=⟨_,rfl⟩
    go_loopw [23] (fun t wr => ∃ (j:Nat) (At:Option Addr) (ct:Nat) (ts:List TermD),j ≤ 2 ∧ t = .int .i64 j ∧ Hid (PMs w bs (K + 40 * i + 1 + 16 * j) H3 (W.heap.size + 1) vg ps pb nm At ct ts wr) ∧ Hid (OkJ j ts)) (fun t _ => 2 - (intOf t).toNat)
    case atStart => exact ⟨0,none,0,[],by omega,rfl,C4,HJ0⟩
    case round =>
     obtain ⟨j,At,ct,ts,hj,rfl,C,hjt⟩:=hrel
     clear C4 HJ0
     by_cases hltj:j < 2
     ·have dj:decide ((j:Int) < 2) = true:=by simp;omega
      have cr:wr.cell? ⟨pb + 1,j,none⟩ = some (.string (reg j)):=cell_h (C.out.rm.lw.fin _ _ HR3.out) j (regs2 j hltj)
      have HTS:Hid (OkTs j ((1:Nat):Int) ts):=by
       have hc:j = 0 ∨ j = 1:=by omega
       rcases hc with rfl | rfl
       ·exact hjt.out
       ·exact hjt.out
      have HKEY:=Lib.hid (reg_key j)
      generalize hrg:reg j = rg at *
      have HRG:=Lib.hid hrg
      clear hrg
      obtain ⟨wo2,rfl⟩:∃ wo:World,wo = wr:=⟨_,rfl⟩
      go_wp2_with fail
      clear cr
      go_loopw [9] (fun t wr => ∃ (c:Nat) (At:Option Addr) (ct:Nat) (ts:List TermD),1 ≤ c ∧ c ≤ 5 ∧ t = .int .i64 c ∧ Hid (PMs w bs (K + 40 * i + 1 + 16 * j + 4 * (c - 1)) H3 (W.heap.size + 1) vg ps pb nm At ct ts wr) ∧ Hid (OkTs j (c:Int) ts)) (fun t _ => 5 - (intOf t).toNat)
      case atStart => exact ⟨1,At,ct,ts,by omega,by omega,rfl,C,HTS⟩
      case round =>
       obtain ⟨c,At,ct,ts,hc1,hc5,rfl,C5,hts⟩:=hrel
       clear C HTS hjt
       by_cases hltc:c ≤ 4
       ·have dc:decide ((c:Int) ≤ 4) = true:=by simp;omega
        go_wp2_with fail
        refine (C5.out.rm.lw.flip 3 (by omega) (by omega)).mono ?_
        rintro e W6 ⟨t,rfl,Lq,gq,-⟩
        have C6:=Lib.hid (C5.out.asked Lq gq)
        clear Lq gq C5
        cases t with
        | true =>
         have HT2:Hid (OkTs j ((c + 1:Nat):Int) ts):=by have:=hts.out.skip;exact this
         go_wp2_with fail
         go_roundw
         case rel => exact ⟨c + 1,At,ct,ts,by omega,by omega,by go_num,C6.out.more (by omega),HT2⟩
         case measure => simp [intOf];omega
        | false =>
         go_wp2_with fail
         refine (C6.out.rm.lw.flip 4 (by omega) (by omega)).mono ?_
         rintro e W7 ⟨fr,rfl,Lq,gq,-⟩
         have C7:=Lib.hid (C6.out.asked Lq gq)
         clear Lq gq C6
         have HT:=Lib.hid (heap_alloc_new W7 (.cells #[.string rg,.int .i64 (c:Int),.bool fr,.int .i64 0,.int .i64 0] 68))
         have C8:=Lib.hid (C7.out.alloc (.cells #[.string rg,.int .i64 (c:Int),.bool fr,.int .i64 0,.int .i64 0] 68))
         have HTB1:Hid (pb < W7.heap.size):=C7.out.lt
         have HTB2:Hid (H3 W7.heap.size = none):=C7.out.rm.lw.fin.none_ (Nat.le_refl _)
         have HTB3:Hid ((Value.slice At ts.length ct).ownBlock ≠ some W7.heap.size):=fun e => by have:=(C7.out.row.lt e).2;omega
         have HTB4:Hid (bs < W7.heap.size):=C7.out.rm.lw.lt
         go_upto_region 15 with (fail)
         generalize hW8:W7.alloc (.cells #[.string rg,.int .i64 (c:Int),.bool fr,.int .i64 0,.int .i64 0] 68) = W8 at *
         generalize htb:W7.heap.size = tb at *
         clear hW8 htb C7
         cases fr with
         | true =>
          have tf:W8.cell? ⟨tb,2,none⟩ = some (.bool true):=cell_h HT.out 2 rfl
          go_upto_region 17 with (fail)
          clear tf
          obtain ⟨t0,ht0⟩:∃ t0:TermD,t0 = ⟨rg,c,true,0,0⟩:=⟨_,rfl⟩
          have HT0:Hid (W8.heap[tb]? = some (.cells #[.string t0.region,.int .i64 t0.ch,.bool t0.free,.int .i64 t0.days,.int .i64 t0.wait] 68)):=by show _ = _;rw [ht0];exact HT.out
          have HOK:=Lib.hid (hts.out.snoc (t:=t0) (by rw [ht0];exact ⟨HKEY.out,⟨by show (1:Int) ≤ c;omega,by show (c:Int) ≤ 4;omega⟩,fun _ => ⟨rfl,rfl⟩,⟨by show (0:Int) ≤ 0;omega,by show (0:Int) ≤ 2000;omega⟩,by show (0:Int) ≤ 0;omega,by show (0:Int) ≤ 100000;omega⟩) (by rw [ht0];exact HRG.out.symm) (by rw [ht0]) (by omega))
          clear ht0 HT
          have hk:=HT0.out
          have z0:W8.cell? ⟨tb,0,none⟩ = some (.string t0.region):=cell_h hk 0 rfl
          have zf0:=froz_h hk 0
          have z1:W8.cell? ⟨tb,1,none⟩ = some (.int .i64 t0.ch):=cell_h hk 1 rfl
          have zf1:=froz_h hk 1
          have z2:W8.cell? ⟨tb,2,none⟩ = some (.bool t0.free):=cell_h hk 2 rfl
          have zf2:=froz_h hk 2
          have z3:W8.cell? ⟨tb,3,none⟩ = some (.int .i64 t0.days):=cell_h hk 3 rfl
          have zf3:=froz_h hk 3
          have z4:W8.cell? ⟨tb,4,none⟩ = some (.int .i64 t0.wait):=cell_h hk 4 rfl
          have zf4:=froz_h hk 4
          have hpc:=C8.out.cell
          have p1:W8.cell? ⟨pb,1,none⟩ = some (.slice At ts.length ct):=cell_h hpc 1 rfl
          have HOr:=Lib.hid C8.out.row
          have HST:=Lib.hid (fun A' c' W' (o:Orow W' (pb + 1) 68 5 fTe (.slice A' (ts ++ [t0]).length c') (ts ++ [t0])) g1 at1 => C8.out.app o g1 at1)
          have hB9:pb + 1 ≤ W8.heap.size:=C8.out.lt
          have hle8:ts.length ≤ 100:=by have:=hts.out.len;omega
          clear hk hpc C8
          go_wp2_with (at_builtin;refine wpList_app_at rfl _ _ 64 rfl (pb + 1) 68 i0 (.agg #[.string ⟨#[]⟩,.int .i64 0,.bool false,.int .i64 0,.int .i64 0]) 5 48 Tryz.underlying64 hi0 hz0 hz1 hz2 rfl (by decide) fTe _ ts rfl HOr.out t0 #[.string t0.region,.int .i64 t0.ch,.bool t0.free,.int .i64 t0.days,.int .i64 t0.wait] 68 rfl rfl (by simp [Value.oneCell']) (by omega) (by omega) hB9 ?_;intro v1 w2 o1 g1 b1 at1;obtain ⟨A1,cap1,rfl,hc1⟩:=o1.slice;obtain ⟨hcl,hps⟩:=HST.out _ _ _ o1 g1 at1;have y1:w2.cell? ⟨pb,1,none⟩ = some (.slice At ts.length ct):=cell_h hcl 1 rfl;have fy:=froz_h hcl 1;simp only [List.length_append,List.length_cons,List.length_nil,Nat.zero_add] at hps;have CA:=Lib.hid hps;clear o1 g1 b1 at1 hcl hps HST HOr p1)
          go_roundw
          case rel => exact ⟨c + 1,_,_,_,by omega,by omega,by go_num,CA.out.more (by omega),HOK⟩
          case measure => simp [intOf];omega
         | false =>
          have HT8:=Lib.hid HT.out
          have tf:W8.cell? ⟨tb,2,none⟩ = some (.bool false):=cell_h HT8.out 2 rfl
          go_upto_region 16 with (fail)
          clear tf
          have hne:=C8.out.rm.lw.lt
          have hIn:Ints (W8.alloc (.cells #[.int .i64 0,.int .i64 0,.int .i64 1,.int .i64 2,.int .i64 100] 3)) (some ⟨W8.heap.size,0,none⟩) [0,0,1,2,100]:=Ints.of_row (heap_at rfl) rfl
          have HIn:=Lib.hid hIn
          clear hIn
          go_wp2_with fail
          refine ((C8.out.alloc _).rm.lw.pick _ _ [0,0,1,2,100] HIn.out (fun b off e => by injection e with e;injection e with e1 e2;omega) (by simp) (by simp) (by omega)).mono ?_
          rintro e W9 ⟨dy,rfl,hdy,Lq,gq,-⟩
          have C9:=Lib.hid ((C8.out.alloc _).asked Lq gq)
          have HT9:=Lib.hid ((gq.block tb (by have:=lt_of_heap HT8.out;simp;omega) (fun e => by injection e with e;have:=HTB4.out;omega)).trans ((heap_lt (lt_of_heap HT8.out)).trans HT8.out))
          clear Lq gq HT8 HIn hne C8
          have hne:=C9.out.rm.lw.lt
          have hIn:Ints (W9.alloc (.cells #[.int .i64 0,.int .i64 0,.int .i64 30,.int .i64 100] 3)) (some ⟨W9.heap.size,0,none⟩) [0,0,30,100]:=Ints.of_row (heap_at rfl) rfl
          have HIn:=Lib.hid hIn
          clear hIn
          go_wp2_with fail
          refine ((C9.out.alloc _).rm.lw.pick _ _ [0,0,30,100] HIn.out (fun b off e => by injection e with e;injection e with e1 e2;omega) (by simp) (by simp) (by omega)).mono ?_
          rintro e W10 ⟨wa,rfl,hwa,Lq,gq,-⟩
          have C10:=Lib.hid ((C9.out.alloc _).asked Lq gq)
          have HT10:=Lib.hid ((gq.block tb (by have:=lt_of_heap HT9.out;simp;omega) (fun e => by injection e with e;have:=HTB4.out;omega)).trans ((heap_lt (lt_of_heap HT9.out)).trans HT9.out))
          clear Lq gq HT9 HIn hne C9
          have hdy2:0 ≤ dy ∧ dy ≤ 2000:=by simp at hdy;omega
          have hwa2:0 ≤ wa ∧ wa ≤ 100000:=by simp at hwa;omega
          clear hdy hwa HT
          have hk:=HT10.out
          have t3:W10.cell? ⟨tb,3,none⟩ = some (.int .i64 0):=cell_h hk 3 rfl
          have t4:W10.cell? ⟨tb,4,none⟩ = some (.int .i64 0):=cell_h hk 4 rfl
          have f3:=froz_h hk 3
          have f4:=froz_h hk 4
          have HT:Hid (((W10.setCell ⟨tb,3,none⟩ (.int .i64 dy)).setCell ⟨tb,4,none⟩ (.int .i64 wa)).heap[tb]? = some (.cells #[.string rg,.int .i64 (c:Int),.bool false,.int .i64 dy,.int .i64 wa] 68 (0,0))):=by
           show _ = _
           simp [World.setCell,Array.getElem?_modify,hk]
          have C11:=Lib.hid ((C10.out.other HTB1.out HTB2.out HTB3.out (.int .i64 dy) (o:=3)).other HTB1.out HTB2.out HTB3.out (.int .i64 wa) (o:=4))
          clear hk C10 HT10
          go_upto_region 17 with (fail)
          clear t3 t4 f3 f4
          generalize (W10.setCell ⟨tb,3,none⟩ (.int .i64 dy)).setCell ⟨tb,4,none⟩ (.int .i64 wa) = W11 at *
          obtain ⟨t0,ht0⟩:∃ t0:TermD,t0 = ⟨rg,c,false,dy,wa⟩:=⟨_,rfl⟩
          have HT0:Hid (W11.heap[tb]? = some (.cells #[.string t0.region,.int .i64 t0.ch,.bool t0.free,.int .i64 t0.days,.int .i64 t0.wait] 68)):=by show _ = _;rw [ht0];exact HT.out
          have HOK:=Lib.hid (hts.out.snoc (t:=t0) (by rw [ht0];exact ⟨HKEY.out,⟨by show (1:Int) ≤ c;omega,by show (c:Int) ≤ 4;omega⟩,(fun e => by cases e),hdy2,hwa2⟩) (by rw [ht0];exact HRG.out.symm) (by rw [ht0]) (by omega))
          clear ht0 HT
          have hk:=HT0.out
          have z0:W11.cell? ⟨tb,0,none⟩ = some (.string t0.region):=cell_h hk 0 rfl
          have zf0:=froz_h hk 0
          have z1:W11.cell? ⟨tb,1,none⟩ = some (.int .i64 t0.ch):=cell_h hk 1 rfl
          have zf1:=froz_h hk 1
          have z2:W11.cell? ⟨tb,2,none⟩ = some (.bool t0.free):=cell_h hk 2 rfl
          have zf2:=froz_h hk 2
          have z3:W11.cell? ⟨tb,3,none⟩ = some (.int .i64 t0.days):=cell_h hk 3 rfl
          have zf3:=froz_h hk 3
          have z4:W11.cell? ⟨tb,4,none⟩ = some (.int .i64 t0.wait):=cell_h hk 4 rfl
          have zf4:=froz_h hk 4
          have hpc:=C11.out.cell
          have p1:W11.cell? ⟨pb,1,none⟩ = some (.slice At ts.length ct):=cell_h hpc 1 rfl
          have HOr:=Lib.hid C11.out.row
          have HST:=Lib.hid (fun A' c' W' (o:Orow W' (pb + 1) 68 5 fTe (.slice A' (ts ++ [t0]).length c') (ts ++ [t0])) g1 at1 => C11.out.app o g1 at1)
          have hB9:pb + 1 ≤ W11.heap.size:=C11.out.lt
          have hle8:ts.length ≤ 100:=by have:=hts.out.len;omega
          clear hk hpc C11
          go_wp2_with (at_builtin;refine wpList_app_at rfl _ _ 64 rfl (pb + 1) 68 i0 (.agg #[.string ⟨#[]⟩,.int .i64 0,.bool false,.int .i64 0,.int .i64 0]) 5 48 Tryz.underlying64 hi0 hz0 hz1 hz2 rfl (by decide) fTe _ ts rfl HOr.out t0 #[.string t0.region,.int .i64 t0.ch,.bool t0.free,.int .i64 t0.days,.int .i64 t0.wait] 68 rfl rfl (by simp [Value.oneCell']) (by omega) (by omega) hB9 ?_;intro v1 w2 o1 g1 b1 at1;obtain ⟨A1,cap1,rfl,hc1⟩:=o1.slice;obtain ⟨hcl,hps⟩:=HST.out _ _ _ o1 g1 at1;have y1:w2.cell? ⟨pb,1,none⟩ = some (.slice At ts.length ct):=cell_h hcl 1 rfl;have fy:=froz_h hcl 1;simp only [List.length_append,List.length_cons,List.length_nil,Nat.zero_add] at hps;have CA:=Lib.hid hps;clear o1 g1 b1 at1 hcl hps HST HOr p1)
          go_roundw
          case rel => exact ⟨c + 1,_,_,_,by omega,by omega,by go_num,CA.out.more (by omega),HOK⟩
          case measure => simp [intOf];omega
       ·have hc:c = 5:=by omega
        subst hc
        have dc:decide (((5:Nat):Int) ≤ 4) = false:=by decide
        have HJ2:Hid (OkJ (j + 1) ts):=by
         have hcj:j = 0 ∨ j = 1:=by omega
         rcases hcj with rfl | rfl
         ·exact hts.out.next
         ·exact hts.out
        go_wp2_with fail
        go_roundw
        case rel => exact ⟨j + 1,At,ct,ts,by omega,by go_num,C5.out.more (by omega),HJ2⟩
        case measure => simp [intOf];omega
     ·have hj2:j = 2:=by omega
      subst hj2
      have hok:OkTs 1 5 ts:=hjt.out
      obtain ⟨A4,cap4,H4,hv4,hle4,p1,p2,hR4,p3,-⟩:=C.out.row.freeze H3
      injection hv4 with e1 e2 e3
      subst e1 e3
      have hbs2:=C.out.bs_lt
      have le4:=p2 C.out.hown
      have hin4:=p1 C.out.rm.lw.fin
      have hap4:H4 bs = none:=by rw [p3 bs (by omega)];exact C.out.rm.lw.apart
      have L4:Lw w bs (K + 40 * i + 1 + 16 * 2) H4 wr:=⟨C.out.rm.lw.st,C.out.rm.lw.bel,C.out.rm.lw.le,hin4,hap4⟩
      have C9:Hid (RM 66 2 fPu w bs (K + 40 * i + 1 + 16 * 2) H4 (W.heap.size + 1) vg ps wr):=⟨L4,C.out.rm.2.1,fun g hg => by rw [p3 g (by have:=C.out.own g hg;omega)];exact C.out.rm.2.2.1 g hg,C.out.rm.2.2.2.1,C.out.rm.2.2.2.2⟩
      have hpc:=C.out.cell
      have c0:wr.cell? ⟨pb,0,none⟩ = some (.string nm):=cell_h hpc 0 rfl
      have c1:wr.cell? ⟨pb,1,none⟩ = some (.slice At ts.length ct):=cell_h hpc 1 rfl
      have hlen8:ts.length ≤ 8:=by have:=hok.len;omega
      have HOK:Hid (OkPs (i + 1) (ps ++ [⟨nm,At,ct,ts⟩]) ∧ ∀ p ∈ ps ++ [⟨nm,At,ct,ts⟩],Rw H4 p.adr 5 fTe p.terms):=by
       refine ⟨hps.out.1.snoc (by omega) HNM.out.symm (OkT.right hok.sorted (Nat.le_trans hlen8 (by omega)) (fun t ht => (hok.all t ht).1)) hlen8 hle4 (fun t ht => (hok.all t ht).2.1),fun p hp => ?_⟩
       rcases List.mem_append.1 hp with hp | hp
       ·exact ((hps.out.2 p hp).le (HLE3.out)).le le4
       ·simp at hp
        subst hp
        exact hR4
      have HLE4:=Lib.hid ((hle.out.trans HLE3.out).trans le4)
      have HOr:=Lib.hid C9.out.row
      have HST:=Lib.hid (fun v' W' o g1 at1 => C9.out.app (v':=v') (W':=W') (ds':=ps ++ [⟨nm,At,ct,ts⟩]) o g1 at1)
      have hB9:=C9.out.2.2.2.2
      have hpl:ps.length ≤ 100:=by have:=hps.out.1.len;omega
      clear p1 p2 p3 hR4 le4 hin4 hap4 L4 hpc hok C
      go_wp2_with (at_builtin;refine wpList_app_at rfl _ _ 30 rfl (W.heap.size + 1) 66 j0 (.agg #[.string ⟨#[]⟩,.slice none 0 0]) 2 40 Tryz.underlying30 hj0 hy0 hy1 hy2 rfl (by decide) fPu _ ps rfl HOr.out ⟨nm,At,ct,ts⟩ #[.string nm,.slice At ts.length ct] 66 rfl rfl (by simp [Value.oneCell']) (by omega) (by omega) hB9 ?_;intro v1 w2 o1 g1 b1 at1;have CA:=Lib.hid (HST.out _ _ o1 g1 at1);clear o1 g1 b1 at1 HST HOr C9)
      go_roundw
      case rel => exact ⟨i + 1,H4,_,by omega,by go_num,HLE4,CA.out.more (by omega),HOK⟩
      case measure => simp [intOf];omega
  ·have hi3:i = 3:=by omega
   subst hi3
   by_cases hps0:ps = []
   ·subst hps0
    obtain ⟨Ag,cg,hvg,hcg⟩:=C.out.row.slice
    simp only [List.length_nil] at hvg
    subst hvg
    obtain ⟨H5,le5,hb5,L5⟩:=C.out.lw.put (.cells #[.string ⟨#[101,117]⟩,.int .i64 1,.bool false,.int .i64 0,.int .i64 0] 68)
    obtain ⟨H6,le6,hb6,L6⟩:=L5.put (.cells #[.string ⟨#[110,101,119,115]⟩,.slice (some ⟨wr.heap.size,0,none⟩) 1 1] 66)
    rw [sizeA] at hb6
    have HF:Hid (PolPost w bs K H (.returned (.slice (some ⟨wr.heap.size + 1,0,none⟩) 1 1)) ((wr.alloc (.cells #[.string ⟨#[101,117]⟩,.int .i64 1,.bool false,.int .i64 0,.int .i64 0] 68)).alloc (.cells #[.string ⟨#[110,101,119,115]⟩,.slice (some ⟨wr.heap.size,0,none⟩) 1 1] 66))):=by
     refine ⟨some ⟨wr.heap.size + 1,0,none⟩,1,[⟨⟨#[110,101,119,115]⟩,some ⟨wr.heap.size,0,none⟩,1,[⟨⟨#[101,117]⟩,1,false,0,0⟩]⟩],H6,rfl,L6.more (by omega),((HLE1.out.trans hle.out).trans le5).trans le6,⟨Rw_blk hb6,fun p hp => ?_,fun p hp => ?_⟩,?_,by simp,by simp,by simp⟩
     ·simp at hp
      subst hp
      exact Rw_blk (le6 _ _ hb5)
     ·simp at hp
      subst hp
      refine ⟨show (⟨#[110,101,119,115]⟩:ByteArray).size ≤ 1000000 by decide,show 1 ≤ 1000 by omega,show 1 ≤ 1 by omega,fun t ht => ?_⟩
      simp at ht
      subst ht
      show (⟨#[101,117]⟩:ByteArray).size ≤ 1000000
      decide
     ·refine OkPs.right (i:=3) (ps:=[⟨⟨#[110,101,119,115]⟩,some ⟨wr.heap.size,0,none⟩,1,[⟨⟨#[101,117]⟩,1,false,0,0⟩]⟩]) ⟨List.pairwise_singleton _ _,by simp,fun p hp => ?_⟩ (by omega) (by simp)
      simp at hp
      subst hp
      refine ⟨⟨1,by omega,rfl⟩,OkT.right (List.pairwise_singleton _ _) (show 1 ≤ 160 by omega) (fun t ht => ?_),show 1 ≤ 8 by omega,show 1 ≤ 1 by omega,fun t ht => ?_⟩
      ·simp at ht
       subst ht
       exact ⟨reg_key 0,by decide,(fun _ => by decide),by decide,by decide⟩
      ·simp at ht
       subst ht
       show (⟨#[101,117]⟩:ByteArray).size ≤ 100
       decide
    clear le5 hb5 L5 le6 hb6 L6 C
    go_wp2_with fail
    go_ret
    exact HF.out
   ·obtain ⟨Ag,cg,hvg,hcg⟩:=C.out.row.slice
    subst hvg
    obtain ⟨A4,cap4,H4,hv4,hle4,p1,p2,hR4,p3,-⟩:=C.out.row.freeze H2
    injection hv4 with e1 e2 e3
    subst e1 e3
    have le4:=p2 C.out.2.2.1
    have hbb:=C.out.2.2.2.1
    have L4:Lw w bs (K + 200) H4 wr:=⟨C.out.lw.st.more (by omega),C.out.lw.bel,C.out.lw.le,p1 C.out.lw.fin,by rw [p3 bs hbb];exact C.out.lw.apart⟩
    have hpos:0 < ps.length:=List.length_pos_iff.2 hps0
    have HF:Hid (PolPost w bs K H (.returned (.slice Ag ps.length cg)) wr):=⟨Ag,cg,ps,H4,rfl,L4,(HLE1.out.trans hle.out).trans le4,⟨hR4,fun p hp => (hps.out.2 p hp).le le4,fun p hp => by
      obtain ⟨⟨j,_,e⟩,_,h8,hc,hz⟩:=hps.out.1.all p hp
      exact ⟨by rw [e];have:=pnm_size j;omega,by omega,hc,fun t ht => by have:=hz t ht;omega⟩⟩,hps.out.1.right (by omega) hpos,hpos,hps.out.1.len,hcg⟩
    have hn0:((ps.length:Int) == 0) = false:=by simp;exact hps0
    clear p1 p2 p3 hR4 le4 L4 C hps0
    go_wp2_with fail
    go_ret
    exact HF.out
open Go.RowKit
structure OkS (ps:List PurD) (s:StD):Prop where
 at_:0 ≤ s.at_ ∧ s.at_ ≤ 4321439
 id:idErr s.kind s.text = 0
 ch:1 ≤ s.ch ∧ s.ch ≤ 4
 what:1 ≤ s.what ∧ s.what ≤ 5
 purp:if 3 < s.what then s.purp.size = 0 else (purF ps s.purp).isNone = false
 region:isKey s.region = true
 size:s.text.size ≤ 1000 ∧ s.purp.size ≤ 1000000 ∧ s.region.size ≤ 1000
structure StOk (ps:List PurD) (no:Int) (ss:List StD):Prop where
 ord:ss.Pairwise fun a b => a.no < b.no
 all:∀ s ∈ ss,1 ≤ s.no ∧ s.no ≤ no ∧ OkS ps s
theorem StOk.nil (ps:List PurD):StOk ps 0 []:=⟨List.Pairwise.nil,fun s h => by cases h⟩
theorem StOk.snoc {ps:List PurD} {no no':Int} {ss:List StD} (h:StOk ps no ss) {s:StD} (hs:OkS ps s) (h1:no < s.no) (h2:s.no ≤ no') (h0:0 ≤ no):StOk ps no' (ss ++ [s]):=by
 refine ⟨?_,fun x hx => ?_⟩
 ·rw [List.pairwise_append]
  refine ⟨h.ord,List.pairwise_singleton _ _,fun a ha b hb => ?_⟩
  simp at hb
  subst hb
  have:=h.all a ha
  omega
 ·rcases List.mem_append.1 hx with hx | hx
  ·have:=h.all x hx
   exact ⟨this.1,by omega,this.2.2⟩
  ·simp at hx
   subst hx
   exact ⟨by omega,h2,hs⟩
theorem StOk.right {ps:List PurD} {no:Int} {ss:List StD} (h:StOk ps no ss) (hp:polErr ps = 0) (hl:ss.length ≤ 3000) (hn:no ≤ 1000000):sayErr idErr ps ss = 0:=by
 unfold sayErr
 rw [if_neg (by simpa using hp),if_neg (by omega),fstErr_zero]
 intro i hi
 obtain ⟨a1,a2,a3⟩:=h.all _ (List.getElem_mem hi)
 rw [stErr_at idErr hi,if_neg (by omega),if_neg,if_neg (by have:=a3.at_;omega),if_neg (by rw [a3.id];simp),if_neg,if_neg,if_neg,if_neg (by rw [a3.region];simp)]
 ·rintro ⟨b1,b2⟩
  have:=a3.purp
  have hw:¬ 3 < ss[i].what:=by
   intro c
   have h5:=a3.what
   have:ss[i].what = 4 ∨ ss[i].what = 5:=by omega
   rcases this with e | e <;> rw [e] at b1 <;> simp [ofCh] at b1
  rw [if_neg hw] at this
  rw [this] at b2;cases b2
 ·rintro ⟨b1,b2⟩
  have:=a3.purp
  have hw:3 < ss[i].what:=by
   unfold ofCh at b1
   simp at b1
   omega
  rw [if_pos hw] at this
  exact b2 this
 ·intro c
  apply c
  have h4:=a3.ch
  have h5:=a3.what
  refine ⟨?_,h5⟩
  unfold chB
  rw [decide_eq_true h4.1,decide_eq_true h4.2];rfl
 ·rintro ⟨b1,b2⟩
  have h1:=List.pairwise_iff_getElem.1 h.ord (i - 1) i (by omega) hi (by omega)
  have e:(ss.getD (i - 1) ss[i]) = ss[i - 1]:=by rw [List.getD_eq_getElem?_getD,List.getElem?_eq_getElem (by omega)];rfl
  rw [e] at b2
  omega
theorem StOk.size {ps:List PurD} {no:Int} {ss:List StD} (h:StOk ps no ss):SzSt ss:=fun s hs => by
 have:=(h.all s hs).2.2.size
 exact ⟨by omega,by omega,by omega⟩
theorem purF_has {ps:List PurD} {p:PurD} (h:p ∈ ps):(purF ps p.name).isNone = false:=by
 unfold purF
 cases e:ps.find? fun q => eqS q.name p.name with
 | some q => rfl
 | none =>
  have:=List.find?_eq_none.1 e p h
  rw [eqS_self] at this
  exact absurd rfl this
theorem RM.other {D:Type} {T k:Nat} {f:D → Nat → Value} {w W:World} {bs K:Nat} {H:Frz} {B:Nat} {v:Value} {ds:List D} (h:RM T k f w bs K H B v ds W) {g o:Nat} (hg:bs < g) (hH:H g = none) (hne:v.ownBlock ≠ some g) (x:Value):RM T k f w bs K H B v ds (W.setCell ⟨g,o,none⟩ x) :=
 ⟨h.1.setCell (p:=⟨g,o,none⟩) hg hH x,h.2.1.kept (grown_setC (World.grownBy.refl _ _) o x) (Or.inr hne),h.2.2.1,h.2.2.2.1,by have:=h.2.2.2.2;simpa [World.setCell] using this⟩
theorem set_4 {w:World} {g:Nat} {T:TypeId} {x0 x1 x2 x3 x4 x5 x6 x7:Value} (h:w.heap[g]? = some (.cells #[x0,x1,x2,x3,x4,x5,x6,x7] T (0,0))) (a:Value):(w.setCell ⟨g,4,none⟩ a).heap[g]? = some (.cells #[x0,x1,x2,x3,a,x5,x6,x7] T (0,0)):=by
 simp [World.setCell,Array.getElem?_modify,h]
def StPost (w:World) (bs K:Nat) (H:Frz) (ps:List PurD) (m:Nat) (e:Ending) (W':World):Prop:=∃ A cap ss H',e = .returned (.slice A ss.length cap) ∧ Lw w bs (K + 12 * m) H' W' ∧ H.Le H' ∧ Rw H' A 8 fSt ss ∧ sayErr idErr ps ss = 0 ∧ SzSt ss ∧ ss.length = m ∧ ss.length ≤ cap ∧ ∀ s ∈ ss,s.no ≤ 2 * m
set_option maxHeartbeats 8000000 in
set_option maxRecDepth 100000 in
theorem Lw.rightStatements {w W:World} {bs K:Nat} {H:Frz} (h:Lw w bs K H W) (hK:K ≤ 1000000) (hPool:PoolIn H) (A:Option Addr) (cap:Nat) (ps:List PurD) (hP:PolIn H A ps) (hpe:polErr ps = 0) (hp0:0 < ps.length) (hp3:ps.length ≤ 1000) (m:Nat) (hm:m ≤ 1000) :
  Calls Tryz.prog 6 #[.pointer (some ⟨bs,0,none⟩),.slice A ps.length cap,.int .i64 m] W (StPost w bs K H ps m):=by
 obtain ⟨i0,hi0,hz0,hz1,hz2⟩:=info_parts infoSta
 have hbs:=h.lt
 have C0:=Lib.hid (RM.new (T:=53) (k:=8) (f:=fSt) h)
 have HPool:=Lib.hid hPool
 have HP:=Lib.hid hP
 have HPE:=Lib.hid hpe
 have HS0:=Lib.hid (StOk.nil ps)
 clear h hPool hP hpe
 go_enter Tryz.func6,Tryz.ntmps6
 go_wp2_with fail
 go_loopw [7,8,11] (fun v n t wr => ∃ (i:Nat) (no:Int) (ss:List StD),i ≤ m ∧ t = .int .i64 i ∧ n = .int .i64 no ∧ 0 ≤ no ∧ no ≤ 2 * i ∧ Hid (RM 53 8 fSt w bs (K + 12 * i) H W.heap.size v ss wr) ∧ Hid (StOk ps no ss) ∧ ss.length = i) (fun _ _ t _ => m - (intOf t).toNat)
 case atStart => exact ⟨0,0,[],by omega,rfl,rfl,by omega,by omega,C0,HS0,rfl⟩
 case round =>
  obtain ⟨i,no,ss,hi,rfl,rfl,hn0,hn1,C,hso,hsl⟩:=hrel
  clear C0 HS0
  by_cases hlt:i < m
  ·have di:decide ((i:Int) < (m:Int)) = true:=by simp;omega
   have hne:=C.out.lw.lt
   have hIn:Ints (wr.alloc (.cells #[.int .i64 1,.int .i64 1,.int .i64 2] 3)) (some ⟨wr.heap.size,0,none⟩) [1,1,2]:=Ints.of_row (heap_at rfl) rfl
   have HIn:=Lib.hid hIn
   clear hIn
   go_wp2_with fail
   refine ((C.out.alloc _).lw.pick _ _ [1,1,2] HIn.out (fun b off e => by injection e with e;injection e with e1 e2;omega) (by simp) (by simp) (by omega)).mono ?_
   rintro e W2 ⟨dn,rfl,hdn,Lq,gq,-⟩
   have C2:=Lib.hid ((C.out.alloc _).asked Lq gq)
   clear Lq gq HIn hne C
   have hdn2:1 ≤ dn ∧ dn ≤ 2:=by simp at hdn;omega
   clear hdn
   go_wp2_with fail
   refine (C2.out.lw.next' 4000 (by omega) (by omega) (by omega)).mono ?_
   rintro e W3 ⟨rr,rfl,rr0,rr1,Lq,gq,-⟩
   have C3:=Lib.hid (C2.out.asked Lq gq)
   clear Lq gq C2
   have hne:=C3.out.lw.lt
   have hIn:Ints (W3.alloc (.cells #[.int .i64 0,.int .i64 10,.int .i64 10,.int .i64 20,.int .i64 50,.int .i64 100,.int .i64 1450,.int .i64 2000,.int .i64 3000,.int .i64 rr] 3)) (some ⟨W3.heap.size,0,none⟩) [0,10,10,20,50,100,1450,2000,3000,rr]:=Ints.of_row (heap_at rfl) rfl
   have HIn:=Lib.hid hIn
   clear hIn
   go_wp2_with fail
   refine ((C3.out.alloc _).lw.pick _ _ [0,10,10,20,50,100,1450,2000,3000,rr] HIn.out (fun b off e => by injection e with e;injection e with e1 e2;omega) (by simp) (by simp) (by omega)).mono ?_
   rintro e W4 ⟨sa,rfl,hsa,Lq,gq,-⟩
   have C4:=Lib.hid ((C3.out.alloc _).asked Lq gq)
   clear Lq gq HIn hne C3
   have hsa2:0 ≤ sa ∧ sa ≤ 4321439:=by simp at hsa;omega
   clear hsa
   go_wp2_with fail
   refine (C4.out.lw.few HPool.out (by omega)).mono ?_
   rintro e W5 ⟨k,hk,rfl,Lq,gq⟩
   have C5:=Lib.hid (C4.out.asked Lq gq)
   have HID:=Lib.hid (pool_ok k hk)
   clear Lq gq C4
   generalize poolL[k].1 = kd at *
   generalize (⟨poolL[k].2.toArray⟩:ByteArray) = tx at *
   have hne:=C5.out.lw.lt
   have hIn:Ints (W5.alloc (.cells #[.int .i64 1,.int .i64 1,.int .i64 1,.int .i64 2,.int .i64 3,.int .i64 4] 3)) (some ⟨W5.heap.size,0,none⟩) [1,1,1,2,3,4]:=Ints.of_row (heap_at rfl) rfl
   have HIn:=Lib.hid hIn
   clear hIn
   go_wp2_with fail
   refine ((C5.out.alloc _).lw.pick _ _ [1,1,1,2,3,4] HIn.out (fun b off e => by injection e with e;injection e with e1 e2;omega) (by simp) (by simp) (by omega)).mono ?_
   rintro e W6 ⟨sc,rfl,hsc,Lq,gq,-⟩
   have C6:=Lib.hid ((C5.out.alloc _).asked Lq gq)
   clear Lq gq HIn hne C5
   have hsc2:1 ≤ sc ∧ sc ≤ 4:=by simp at hsc;omega
   clear hsc
   have hne:=C6.out.lw.lt
   have hIn:Ints (W6.alloc (.cells #[.int .i64 1,.int .i64 1,.int .i64 1,.int .i64 2,.int .i64 2,.int .i64 3,.int .i64 4,.int .i64 5] 3)) (some ⟨W6.heap.size,0,none⟩) [1,1,1,2,2,3,4,5]:=Ints.of_row (heap_at rfl) rfl
   have HIn:=Lib.hid hIn
   clear hIn
   go_wp2_with fail
   refine ((C6.out.alloc _).lw.pick _ _ [1,1,1,2,2,3,4,5] HIn.out (fun b off e => by injection e with e;injection e with e1 e2;omega) (by simp) (by simp) (by omega)).mono ?_
   rintro e W7 ⟨wh,rfl,hwh,Lq,gq,-⟩
   have C7:=Lib.hid ((C6.out.alloc _).asked Lq gq)
   clear Lq gq HIn hne C6
   have hwh2:1 ≤ wh ∧ wh ≤ 5:=by simp at hwh;omega
   clear hwh
   have hne:=C7.out.lw.lt
   have hSt:StrsW (W7.alloc (.cells #[.string ⟨#[101,117]⟩,.string ⟨#[117,115]⟩] 9)) (some ⟨W7.heap.size,0,none⟩) [⟨#[101,117]⟩,⟨#[117,115]⟩]:=StrsW.of_row (heap_at rfl) rfl
   have HSt:=Lib.hid hSt
   clear hSt
   go_wp2_with fail
   refine ((C7.out.alloc _).lw.one _ _ [⟨#[101,117]⟩,⟨#[117,115]⟩] HSt.out (fun b off e => by injection e with e;injection e with e1 e2;omega) (by simp) (by simp) (by omega)).mono ?_
   rintro e W8 ⟨rg,rfl,hrg,Lq,gq,-⟩
   have C8:=Lib.hid ((C7.out.alloc _).asked Lq gq)
   clear Lq gq HSt hne C7
   have HRG:Hid (isKey rg = true ∧ rg.size ≤ 1000):=by
    simp at hrg
    rcases hrg with rfl | rfl
    ·exact ⟨reg_key 0,by decide⟩
    ·exact ⟨reg_key 1,by decide⟩
   clear hrg
   have HT:=Lib.hid (heap_alloc_new W8 (.cells #[.int .i64 (no + dn),.int .i64 sa,.int .i64 kd,.string tx,.string ⟨#[]⟩,.string rg,.int .i64 sc,.int .i64 wh] 53))
   have C9:=Lib.hid (C8.out.alloc (.cells #[.int .i64 (no + dn),.int .i64 sa,.int .i64 kd,.string tx,.string ⟨#[]⟩,.string rg,.int .i64 sc,.int .i64 wh] 53))
   have HTB2:Hid (H W8.heap.size = none):=C8.out.lw.fin.none_ (Nat.le_refl _)
   have HTB3:Hid (u7.ownBlock ≠ some W8.heap.size):=fun e => by have:=(C8.out.row.lt e).2;omega
   have HTB4:Hid (bs < W8.heap.size):=C8.out.lw.lt
   have hnb:no + dn ≤ 2000 ∧ 0 ≤ no + dn:=by omega
   go_upto_region 7 with (fail)
   generalize hW9:W8.alloc (.cells #[.int .i64 (no + dn),.int .i64 sa,.int .i64 kd,.string tx,.string ⟨#[]⟩,.string rg,.int .i64 sc,.int .i64 wh] 53) = W9 at *
   generalize htb:W8.heap.size = tb at *
   clear hW9 htb C8
   by_cases hw3:wh ≤ 3
   ·have dw:decide (wh ≤ 3) = true:=by simp;exact hw3
    have dp:decide ((0:Int) < (ps.length:Int)) = true:=by simp;exact hp0
    have x7:W9.cell? ⟨tb,7,none⟩ = some (.int .i64 wh):=cell_h HT.out 7 rfl
    go_wp2_with fail
    clear x7
    refine (C9.out.lw.next' ps.length (by omega) (by omega) (by omega)).mono ?_
    rintro e W10 ⟨q,rfl,q0,q1,Lq,gq,-⟩
    have C10:=Lib.hid (C9.out.asked Lq gq)
    have HTB5:=HTB4.out
    have hk:=(gq.block _ (lt_of_heap HT.out) (fun e => by injection e with e;omega)).trans HT.out
    have HT2:=Lib.hid hk
    clear HT Lq gq C9
    obtain ⟨qn,rfl⟩:∃ qn:Nat,(qn:Int) = q:=⟨q.toNat,by omega⟩
    have hq:qn < ps.length:=by omega
    obtain ⟨b,off,rfl,-,hc⟩:=HP.out.row.at_ C10.out.lw.fin hq (by omega)
    have c0:W10.cell? ⟨b,off + qn * 2,none⟩ = some (.string ps[qn].name):=hc 0 (by omega)
    have HPU:Hid ((purF ps ps[qn].name).isNone = false ∧ ps[qn].name.size ≤ 1000000):=⟨purF_has (List.getElem_mem hq),(HP.out.size _ (List.getElem_mem hq)).1⟩
    generalize ps[qn].name = nm at *
    have y4:W10.cell? ⟨tb,4,none⟩ = some (.string ⟨#[]⟩):=cell_h hk 4 rfl
    have fy:=froz_h hk 4
    have HT3:=Lib.hid (set_4 hk (.string nm))
    have C11:=Lib.hid (C10.out.other HTB4.out HTB2.out HTB3.out (.string nm) (o:=4))
    go_upto_region 9 with (fail)
    generalize W10.setCell ⟨tb,4,none⟩ (.string nm) = W11 at *
    clear y4 fy HT2 c0 hc
    obtain ⟨t0,ht0⟩:∃ t0:StD,t0 = ⟨no + dn,sa,kd,tx,nm,rg,sc,wh⟩:=⟨_,rfl⟩
    have HT0:Hid (W11.heap[tb]? = some (.cells #[.int .i64 t0.no,.int .i64 t0.at_,.int .i64 t0.kind,.string t0.text,.string t0.purp,.string t0.region,.int .i64 t0.ch,.int .i64 t0.what] 53)):=by show _ = _;rw [ht0];exact HT3.out
    have HNO:Hid (t0.no = no + dn):=by show _ = _;rw [ht0]
    have HOK:=Lib.hid (hso.out.snoc (s:=t0) (no':=no + dn) (by rw [ht0];exact ⟨hsa2,HID.out.1,hsc2,hwh2,(by rw [if_neg (show ¬ (3 < wh) by omega)];exact HPU.out.1),HRG.out.1,⟨HID.out.2,HPU.out.2,HRG.out.2⟩⟩) (by rw [HNO.out];omega) (by rw [HNO.out];omega) hn0)
    clear ht0 HT3
    have hk:=HT0.out
    have z0:W11.cell? ⟨tb,0,none⟩ = some (.int .i64 t0.no):=cell_h hk 0 rfl
    have zf0:=froz_h hk 0
    have z1:W11.cell? ⟨tb,1,none⟩ = some (.int .i64 t0.at_):=cell_h hk 1 rfl
    have zf1:=froz_h hk 1
    have z2:W11.cell? ⟨tb,2,none⟩ = some (.int .i64 t0.kind):=cell_h hk 2 rfl
    have zf2:=froz_h hk 2
    have z3:W11.cell? ⟨tb,3,none⟩ = some (.string t0.text):=cell_h hk 3 rfl
    have zf3:=froz_h hk 3
    have z4:W11.cell? ⟨tb,4,none⟩ = some (.string t0.purp):=cell_h hk 4 rfl
    have zf4:=froz_h hk 4
    have z5:W11.cell? ⟨tb,5,none⟩ = some (.string t0.region):=cell_h hk 5 rfl
    have zf5:=froz_h hk 5
    have z6:W11.cell? ⟨tb,6,none⟩ = some (.int .i64 t0.ch):=cell_h hk 6 rfl
    have zf6:=froz_h hk 6
    have z7:W11.cell? ⟨tb,7,none⟩ = some (.int .i64 t0.what):=cell_h hk 7 rfl
    have zf7:=froz_h hk 7
    have HOr:=Lib.hid C11.out.row
    have HST:=Lib.hid (fun v' W' o g1 at1 => C11.out.app (v':=v') (W':=W') (ds':=ss ++ [t0]) o g1 at1)
    have hB9:=C11.out.2.2.2.2
    have hpl:ss.length ≤ 1000:=by omega
    clear hk C11
    go_wp2_with (at_builtin;refine wpList_app_at rfl _ _ 32 rfl W.heap.size 53 i0 (.agg #[.int .i64 0,.int .i64 0,.int .i64 0,.string ⟨#[]⟩,.string ⟨#[]⟩,.string ⟨#[]⟩,.int .i64 0,.int .i64 0]) 8 88 Tryz.underlying32 hi0 hz0 hz1 hz2 rfl (by decide) fSt _ ss rfl HOr.out t0 #[.int .i64 t0.no,.int .i64 t0.at_,.int .i64 t0.kind,.string t0.text,.string t0.purp,.string t0.region,.int .i64 t0.ch,.int .i64 t0.what] 53 rfl rfl (by simp [Value.oneCell']) (by omega) (by omega) hB9 ?_;intro v1 w2 o1 g1 b1 at1;have CA:=Lib.hid (HST.out _ _ o1 g1 at1);clear o1 g1 b1 at1 HST HOr)
    go_roundw
    case rel => exact ⟨i + 1,no + dn,_,by omega,by go_num,rfl,by omega,by omega,CA.out.more (by omega),HOK,by simp [hsl]⟩
    case measure => simp [intOf];omega
   ·have dw:decide (wh ≤ 3) = false:=by simp;omega
    have x7:W9.cell? ⟨tb,7,none⟩ = some (.int .i64 wh):=cell_h HT.out 7 rfl
    go_upto_region 9 with (fail)
    clear x7
    obtain ⟨t0,ht0⟩:∃ t0:StD,t0 = ⟨no + dn,sa,kd,tx,⟨#[]⟩,rg,sc,wh⟩:=⟨_,rfl⟩
    have HT0:Hid (W9.heap[tb]? = some (.cells #[.int .i64 t0.no,.int .i64 t0.at_,.int .i64 t0.kind,.string t0.text,.string t0.purp,.string t0.region,.int .i64 t0.ch,.int .i64 t0.what] 53)):=by show _ = _;rw [ht0];exact HT.out
    have HNO:Hid (t0.no = no + dn):=by show _ = _;rw [ht0]
    have HOK:=Lib.hid (hso.out.snoc (s:=t0) (no':=no + dn) (by rw [ht0];exact ⟨hsa2,HID.out.1,hsc2,hwh2,(by rw [if_pos (show 3 < wh by omega)];rfl),HRG.out.1,⟨HID.out.2,(by show (0:Nat) ≤ 1000000;omega),HRG.out.2⟩⟩) (by rw [HNO.out];omega) (by rw [HNO.out];omega) hn0)
    clear ht0 HT
    have hk:=HT0.out
    have z0:W9.cell? ⟨tb,0,none⟩ = some (.int .i64 t0.no):=cell_h hk 0 rfl
    have zf0:=froz_h hk 0
    have z1:W9.cell? ⟨tb,1,none⟩ = some (.int .i64 t0.at_):=cell_h hk 1 rfl
    have zf1:=froz_h hk 1
    have z2:W9.cell? ⟨tb,2,none⟩ = some (.int .i64 t0.kind):=cell_h hk 2 rfl
    have zf2:=froz_h hk 2
    have z3:W9.cell? ⟨tb,3,none⟩ = some (.string t0.text):=cell_h hk 3 rfl
    have zf3:=froz_h hk 3
    have z4:W9.cell? ⟨tb,4,none⟩ = some (.string t0.purp):=cell_h hk 4 rfl
    have zf4:=froz_h hk 4
    have z5:W9.cell? ⟨tb,5,none⟩ = some (.string t0.region):=cell_h hk 5 rfl
    have zf5:=froz_h hk 5
    have z6:W9.cell? ⟨tb,6,none⟩ = some (.int .i64 t0.ch):=cell_h hk 6 rfl
    have zf6:=froz_h hk 6
    have z7:W9.cell? ⟨tb,7,none⟩ = some (.int .i64 t0.what):=cell_h hk 7 rfl
    have zf7:=froz_h hk 7
    have HOr:=Lib.hid C9.out.row
    have HST:=Lib.hid (fun v' W' o g1 at1 => C9.out.app (v':=v') (W':=W') (ds':=ss ++ [t0]) o g1 at1)
    have hB9:=C9.out.2.2.2.2
    have hpl:ss.length ≤ 1000:=by omega
    clear hk C9
    go_wp2_with (at_builtin;refine wpList_app_at rfl _ _ 32 rfl W.heap.size 53 i0 (.agg #[.int .i64 0,.int .i64 0,.int .i64 0,.string ⟨#[]⟩,.string ⟨#[]⟩,.string ⟨#[]⟩,.int .i64 0,.int .i64 0]) 8 88 Tryz.underlying32 hi0 hz0 hz1 hz2 rfl (by decide) fSt _ ss rfl HOr.out t0 #[.int .i64 t0.no,.int .i64 t0.at_,.int .i64 t0.kind,.string t0.text,.string t0.purp,.string t0.region,.int .i64 t0.ch,.int .i64 t0.what] 53 rfl rfl (by simp [Value.oneCell']) (by omega) (by omega) hB9 ?_;intro v1 w2 o1 g1 b1 at1;have CA:=Lib.hid (HST.out _ _ o1 g1 at1);clear o1 g1 b1 at1 HST HOr)
    go_roundw
    case rel => exact ⟨i + 1,no + dn,_,by omega,by go_num,rfl,by omega,by omega,CA.out.more (by omega),HOK,by simp [hsl]⟩
    case measure => simp [intOf];omega
  ·have him:i = m:=by omega
   subst him
   obtain ⟨Ag,cg,hvg,hcg⟩:=C.out.row.slice
   subst hvg
   obtain ⟨A4,cap4,H4,hv4,hle4,p1,p2,hR4,p3,-⟩:=C.out.row.freeze H
   injection hv4 with e1 e2 e3
   subst e1 e3
   have le4:=p2 C.out.2.2.1
   have hbb:=C.out.2.2.2.1
   have L4:Lw w bs (K + 12 * i) H4 wr:=⟨C.out.lw.st,C.out.lw.bel,C.out.lw.le,p1 C.out.lw.fin,by rw [p3 bs hbb];exact C.out.lw.apart⟩
   have HF:Hid (StPost w bs K H ps i (.returned (.slice Ag ss.length cg)) wr):=⟨Ag,cg,ss,H4,rfl,L4,le4,hR4,hso.out.right HPE.out (by omega) (by omega),hso.out.size,hsl,hcg,fun s hs => by have:=(hso.out.all s hs).2.1;omega⟩
   have di:decide ((i:Int) < (i:Int)) = false:=by simp
   clear p1 p2 p3 hR4 le4 L4 C hsl
   go_wp2_with fail
   refine bodyPost_ret (v:=.slice Ag ss.length cg) (by simp [results,Tryz.results6,go_sem]) rfl HF.out
end Go.Proofs.YtcncifmanodabaaGreatDoor
