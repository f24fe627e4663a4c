/- Texts of this claim, put together: PackNil, Glob, GlobU. -/
import Derived.Test.YtfmnlpmgakgleaaGreatDoorGAV
import Derived.Test.YtfmnlpmgakgleaaGreatDoorGAQ
import Derived.Test.YtfmnlpmgakgleaaGreatDoorGAI
import Derived.Test.YtfmnlpmgakgleaaGreatDoorGAO
import Derived.OpenShut
import Derived.FnData
import Derived.Shelf.Vars
import Derived.MakeChecks
import Derived.Handed
import Derived.Test.YtfmnlpmgakgleaaGreatDoorGAK
import Derived.Lib.LaidU8T
namespace Go.Proofs.YtfmnlpmgakgleaaGreatDoor
set_option linter.unusedVariables false
open Go.RowKit
theorem vm_setc9 {w w':World} {r:Nat} (g:w.grownBy w' (some r)) (j:Nat) (v:Value):w.grownBy (w'.setCell ⟨r,j,none⟩ v) (some r):=⟨g.os,g.tape,g.output,by have:=g.size;simpa [World.setCell] using this,fun b hb hne => (Below.heap_setCell w' _ _ b (fun e => hne (by rw [e]))).trans (g.block b hb hne)⟩
def VarPost (pb:Nat) (mv:Value) (W:World) (e:Ending) (W':World):Prop:=e = .returned (.tuple #[]) ∧ ∃ v,W'.ownsRow W.heap.size 5 1 v 1 [vb 0] ∧ W'.heap[pb]? = some (.cells #[v,mv] 145 (0,0)) ∧ W.grownBy W' (some pb)
set_option maxHeartbeats 4000000 in
set_option maxRecDepth 100000 in
theorem varint0_any (pb:Nat) (mv:Value) (W:World) (hp:W.heap[pb]? = some (.cells #[.slice none 0 0,mv] 145 (0,0))) :
  Calls Tryz.prog 77 #[.pointer (some ⟨pb,0,none⟩),.int .i64 0] W (VarPost pb mv W):=by
 obtain ⟨i0,hi0,hz0,hz1,hz2⟩:=info_parts infoByte
 have HP:=Lib.hid hp
 have hlt:=lt_of_heap hp
 have hown:Hid (W.ownsRow W.heap.size 5 1 (.slice none 0 0) 0 []):=⟨rfl,Or.inl ⟨rfl,rfl⟩⟩
 have a1:=fun W:World => (show (convert 3 5 (.int .i64 0)).run Tryz.prog W = .ok (.int .u8 0) W by kernel_rfl)
 clear hp
 go_enter Tryz.func77,Tryz.ntmps77
 go_wp2_with fail
 go_loopw [1] (fun t wr => t = .int .i64 0 ∧ Hid (wr = W)) (fun _ _ => 0)
 case atStart => exact ⟨rfl,rfl⟩
 case round =>
  obtain ⟨rfl,hw⟩:=hrel
  have hw:=hw.out
  subst hw
  have c0:=cell_h HP.out 0 (v:=.slice none 0 0) rfl
  go_wp2_with (at_builtin;refine wpList_append1 rfl _ _ 143 rfl wr.heap.size 5 i0 (.int .u8 0) 1 1 Tryz.underlying143 hi0 hz0 hz1 hz2 rfl (by decide) _ _ _ rfl hown.out #[.int .u8 0] 5 rfl rfl (by simp [Value.oneCell']) (by omega) (by omega) (Nat.le_refl _) ?_;intro v' w' hown' hg' hb';have hq:=(hb'.block pb hlt).trans HP.out;have k0:=cell_h hq 0 (v:=.slice none 0 0) rfl;have f0:=froz_h hq 0;have HB:=Lib.hid hb';have HQ:=Lib.hid hq;clear hg' hb' hq;obtain ⟨g,vc,hv,hgb⟩:∃ g vc,v' = .slice (some ⟨g,0,none⟩) 1 vc ∧ wr.heap.size ≤ g:=(by rcases hown'.2 with ⟨_,h⟩ | ⟨g,vc,_,h,hB,_⟩;(· simp at h);exact ⟨g,vc,h,hB⟩);subst hv;have HO:=Lib.hid hown';clear hown')
  have HF:Hid (VarPost pb mv wr (.returned (.tuple #[])) (w'.setCell ⟨pb,0,none⟩ (.slice (some ⟨g,0,none⟩) 1 vc))):=by
   have g9:=vm_setc9 (World.grownBy.refl w' (some pb)) 0 (.slice (some ⟨g,0,none⟩) 1 vc)
   refine ⟨rfl,_,World.ownsRow.kept HO.out g9 (Or.inr (fun e => by simp [Value.ownBlock] at e;omega)),?_,⟨HB.out.os,HB.out.tape,HB.out.output,by simpa [World.setCell] using HB.out.size,fun b hb hne => ?_⟩⟩
   ·simp [World.setCell,Array.getElem?_modify,HQ.out]
   ·exact (Below.heap_setCell w' _ _ b (fun e => hne (by rw [e]))).trans (HB.out.block b hb)
  go_end0
  exact HF.out
def PackPost (W:World) (e:Ending) (W':World):Prop:=e = .returned (.tuple #[.string ⟨#[0]⟩,.int .i64 0]) ∧ Below W.heap.size W W'
set_option maxHeartbeats 4000000 in
set_option maxRecDepth 100000 in
theorem packNil_any (H:Frz) (hU:UtfIn H) (hM:MLen H) (W:World) (hH:H.In W):Calls Tryz.prog 36 #[.slice none 0 0] W (PackPost W):=by
 have HCK:=Lib.hid (check_right H hU hM none 0 [] W hH Rw.nil (fun d hd => by cases hd) (by simp) ⟨(fun e he => by cases he),List.Pairwise.nil,List.Pairwise.nil⟩)
 have hmm:=@run_makeMap Tryz.prog
 clear hU hM hH
 go_enter Tryz.func36,Tryz.ntmps36
 go_wp2_with fail
 refine HCK.out.mono ?_
 rintro e W1 ⟨rfl,hb1⟩
 have HB1:=Lib.hid hb1
 have HB2:=Lib.hid (hb1.trans (((new1 (w:=W1) (.map #[] 0)).trans ((new1 (w:=W1.alloc (.map #[] 0)) (.cells #[.slice none 0 0,.map (some W1.heap.size)] 145)).mono (by simp))).mono hb1.size))
 have HV:=Lib.hid (varint0_any (W1.heap.size + 1) (.map (some W1.heap.size)) ((W1.alloc (.map #[] 0)).alloc (.cells #[.slice none 0 0,.map (some W1.heap.size)] 145)) (heap_at (by simp)))
 clear hb1 HCK
 go_wp2_with fail
 clear hmm
 refine HV.out.mono ?_
 rintro e W3 ⟨rfl,v,hown,hh,hg⟩
 obtain ⟨g,vc,hv⟩:∃ g vc,v = .slice (some ⟨g,0,none⟩) 1 vc:=by
  rcases hown.2 with ⟨_,h⟩ | ⟨g,vc,_,h,_⟩
  ·simp at h
  ·exact ⟨g,vc,h⟩
 subst hv
 have hcv:=conv_own (l:=[0]) hown
 have k0:=cell_h hh 0 (v:=.slice (some ⟨g,0,none⟩) 1 vc) rfl
 have HF:Hid (PackPost W (.returned (.tuple #[.string ⟨#[0]⟩,.int .i64 0])) W3):=⟨rfl,HB2.out.grown hg HB2.out.size (fun q hq => by injection hq with hq;have:=HB1.out.size;omega)⟩
 clear hown hh hg HB1 HB2 HV
 go_wp2_with fail
 go_loopw [25] (fun t wr => t = .int .i64 0 ∧ Hid (wr = W3)) (fun _ _ => 0)
 case atStart => exact ⟨rfl,rfl⟩
 case round =>
  obtain ⟨rfl,hw⟩:=hrel
  have hw:=hw.out
  subst hw
  go_wp2_with fail
  go_ret2
  exact HF.out
set_option maxHeartbeats 1000000 in
set_option maxRecDepth 100000 in
theorem happenings_any (H:Frz) (hU:UtfIn H) (hM:MLen H) (W:World) (hH:H.In W):Calls Tryz.prog 13 #[] W fun e W' => e = .returned (.bool true) ∧ Below W.heap.size W W':=by
 have HP:=Lib.hid (packNil_any H hU hM W hH)
 have hs:((⟨#[0]⟩:ByteArray).toList == (⟨#[0]⟩:ByteArray).toList) = true:=by simp
 clear hU hM hH
 go_enter Tryz.func13,Tryz.ntmps13
 go_wp2_with fail
 refine HP.out.mono ?_
 rintro e W1 ⟨rfl,hb⟩
 have HB:=Lib.hid hb
 clear hb HP
 go_wp2_with fail
 go_ret
 exact ⟨rfl,HB.out⟩
open Go.RowKit
def memH (w:World):Frz:=fun b => w.heap[b]?
theorem memH_in (w:World):(memH w).In w:=fun b o h => h
theorem memH_cell {w:World} {b o:Nat} {v:Value} (h:w.cell? ⟨b,o,none⟩ = some v):(memH w).cell? ⟨b,o,none⟩ = some v:=by
 unfold Frz.cell? memH
 simp only [World.cell?] at h ⊢
 split at h <;> simp_all
def VarHolds (P:Program) (w:World) (n:String) (d:DataW Unit):Prop :=
 ∃ g t cs fuel p,P.globalNamed n = some g ∧ (P.globals[g]?).map (·.type) = some t ∧ w.var? P n = some cs ∧ DataW.trod (fun _ => ()) P w 0 (fun _ => true) false fuel t cs.toList = some (d,p)
theorem laid_holds {P:Program} {w:World}:∀ {l:List (String × DataW Unit)} {ps:List MemPlace},DataW.LaidVars P w l ps → ∀ n d,(n,d) ∈ l → VarHolds P w n d
 | [],_,_,_,_,hm => by cases hm
 | (n',d') :: r,ps,h,n,d,hm => by
  obtain ⟨g,t,cs,fuel,p,q,h1,h2,h3,h4,h5,_⟩:=h
  rcases List.mem_cons.1 hm with e | e
  ·cases e
   exact ⟨g,t,cs,fuel,p,h1,h2,h3,h4⟩
  ·exact laid_holds h5 n d e
theorem laidH_holds {P:Program} {w:World} {l:List (String × DataW Unit)} (h:laidMetH P l w) (hl:(l.all fun x => x.2.handleName?.isNone) = true) {n:String} {d:DataW Unit} (hm:(n,d) ∈ l):VarHolds P w n d:=by
 rw [MakeChecks.laidMetH_plain _ _ _ hl] at h
 obtain ⟨ps,hv,_⟩:=h
 exact laid_holds hv n d hm
def poolData:DataW Unit:=.agg (poolL.map fun x => .agg [.lit (.int .i64 x.1),.lit (.string x.2)])
theorem pool_of {w : World} (h : VarHolds Tryz.prog w "handbill/handmake.idPool" poolData) : PoolIn (memH w) := by
 obtain ⟨g,t,cs,fuel,p,hg,hty,hvar,hd⟩:=h
 obtain rfl := Option.some.inj ((show Tryz.prog.globalNamed "handbill/handmake.idPool" = some 1 by kernel_rfl).symm.trans hg)
 obtain rfl:=Option.some.inj ((show (Tryz.prog.globals[1]?).map (·.type) = some 211 by kernel_rfl).symm.trans hty)
 obtain ⟨xs,m,-,hx,hl,hxl,hf⟩:=DataW.trod_array Tryz.underlying211 hd
 have hce:Tryz.prog.cellsOf 39 = 2:=by kernel_rfl
 have hci:Tryz.prog.cellsOf 3 = 1:=by kernel_rfl
 have hcs:Tryz.prog.cellsOf 9 = 1:=by kernel_rfl
 have hdx:xs.map (·.1) = poolL.map fun x => (DataW.agg [.lit (.int .i64 x.1),.lit (.string x.2)]:DataW Unit):=by
  have:=congrArg Prod.fst hx
  simpa [poolData] using this.symm
 intro i hi
 have hi10:i < 10:=hi
 have h1:=hf i hi10
 rw [hce] at h1
 have hix:i < xs.length:=by omega
 rw [List.getElem?_eq_getElem hix] at h1
 have hpx:poolL[i]? = some poolL[i]:=List.getElem?_eq_getElem hi
 generalize poolL[i] = x at hpx ⊢
 have hd1:xs[i].1 = DataW.agg [.lit (.int .i64 x.1),.lit (.string x.2)]:=by
  have:=congrArg (fun l => l[i]?) hdx
  simp only [List.getElem?_map] at this
  rw [List.getElem?_eq_getElem hix,hpx] at this
  exact Option.some.inj this
 obtain ⟨y0,y1,n,hy,hl2,a0,a1⟩:=Go.ChangeShapes.trod_struct2 Tryz.underlying39 h1
 have hy':=(congrArg Prod.fst hy).symm.trans hd1
 simp only [DataW.agg.injEq,List.cons.injEq,and_true] at hy'
 obtain ⟨e0,e1⟩:=hy'
 obtain ⟨z,c0,v0,-⟩:=DataW.trod_int Tryz.underlying3 a0
 obtain ⟨s,c1,v1,-⟩:=DataW.trod_string Tryz.underlying9 a1
 have ez:=(congrArg Prod.fst v0).symm.trans e0
 have es:=(congrArg Prod.fst v1).symm.trans e1
 simp only [DataW.lit.injEq,Lit.int.injEq,true_and,Lit.string.injEq] at ez es
 subst ez
 simp only [hci,hcs] at c0 c1
 have k0:=congrArg (fun l => l[0]?) c0
 have k1:=congrArg (fun l => l[0]?) c1
 simp [List.getElem?_drop] at k0 k1
 refine ⟨memH_cell ?_,memH_cell ?_⟩
 ·rw [World.var?_cell hg hvar (i * 2),← Array.getElem?_toList]
  simpa using k0
 ·rw [World.var?_cell hg hvar (i * 2 + 1),← Array.getElem?_toList]
  rw [← es]
  simpa using k1
theorem mlen_of {w:World} (h:w.ShapedOpen Tryz.prog):MLen (memH w):=by
 obtain ⟨m,hm⟩:=Go.Proofs.cell_of_shapedOpen_int (P:=Tryz.prog) (g:=3) (t:=3) (zero:=#[.int .i64 0]) h (of_decide_eq_true (by kernel_rfl)) (by kernel_rfl) rfl (by kernel_rfl) (by kernel_rfl) Tryz.underlying3
 exact ⟨m,memH_cell hm⟩
structure GlobOk (w:World):Prop where
 pool:PoolIn (memH w)
 mlen:MLen (memH w)
theorem Lw.whole {w:World} {a:Option Addr} {len cap:Nat} {zs:List Int} (h:IsRow .i64 w a len cap zs) :
  Lw w w.heap.size 0 (memH w) (w.alloc (.cells #[.slice a len cap,.int .i64 0] 25)) :=
 ⟨St.of_row h,(Below.refl _ _).alloc (Nat.le_refl _) _,Nat.le_refl _,(memH_in w).alloc _,Array.getElem?_eq_none (Nat.le_refl _)⟩
theorem handed_and {H:Type} {enc:TypeId × Value → H} {a:Assume} {C:Checked} {os:Os} {f:FuncId} {fn:Func} {s:ChangeSpec} {conds:List PathCond} {apart fresh handsOn again:Bool} {X:World → Array Value → Prop}
  (hX:∀ (w w':World) (args:Array Value),w.heap = w'.heap → X w args → X w' args)
  (own:ownKnob C.prog.godebug = none) (started:os.Started) (noInit:C.prog.inits.idxOf? f = none) (hfn:C.prog.funcs[f]? = some fn)
  (witness:∃ (w:World) (tape:Tape) (i:Input),w.os = os ∧ (w.forCall tape i).Shaped C.prog ∧ i.vars = [] ∧ Input.okWide C.prog (w.forCall tape i) .any w.heap.size f i ∧
   ((s.pre enc C.prog fn conds apart (w.forCall tape i).memory i.args ∧ X (w.forCall tape i).memory i.args) ∧ sizedMet enc C.prog fn (OpenSpec.ofChange s) apart (w.forCall tape i).memory i.args) ∧ a.holds C.prog (lone (Frame.enter C.prog f i.args .normal) [] (w.forCall tape i)))
  (contract:∀ (W:World) (base:Nat) (args:Array Value) (ds gs:List (DataW H)) (before:List MemPlace),
   (∀ (j:Nat) t v,fn.params[j]? = some t → args[j]? = some v → Value.okWide C.prog W .any base t v) →
   DataW.Whole enc C.prog fn.params.toList s.vars apart W args.toList ds gs before →
   X W args → W.ShapedOpen C.prog →
   Calls C.prog f args W fun e W' => ∃ v,e = .returned v ∧ s.post enc C.prog fn apart fresh handsOn again W args v W') :
  ReturnsInHanded a C os f .any (fun w args => (s.pre enc C.prog fn conds apart w args ∧ X w args) ∧ sizedMet enc C.prog fn (OpenSpec.ofChange s) apart w args) (s.post enc C.prog fn apart fresh handsOn again):=by
 refine returnsInHanded_of_calls own started noInit witness ?_
 intro w tape i _ hsh _ hok hpre hholds
 obtain ⟨_,_,_,fn',hfn',_,_,_,_,hval⟩:=hok
 have e:fn' = fn:=Option.some.inj (hfn'.symm.trans hfn)
 subst e
 obtain ⟨⟨⟨ds,gs,before,hw,hc⟩,hx⟩,hz⟩:=hpre
 have hw':=DataW.Whole.of_heap (w':=w.forCall tape i) (by rfl) hw
 refine (contract (w.forCall tape i) w.heap.size i.args ds gs before hval hw' (hX _ _ _ (by rfl) hx) hsh).mono fun e W' ⟨v,he,hp⟩ => ?_
 subst he
 exact ChangeSpec.post_blind hp
open Go.RowKit
theorem u8Extra:U8Extra Tryz.prog Tryz.laysValid_ren where
 n3:=by kernel_rfl
 n4:=by kernel_rfl
 y3:=by kernel_rfl
 y4:=by kernel_rfl
 c5:=by kernel_rfl
 c119:=by kernel_rfl
 c138:=by kernel_rfl
theorem utf_of {w : World} (h1 : VarHolds Tryz.prog w "unicode/utf8.first" Lib.firstData) (h2 : VarHolds Tryz.prog w "unicode/utf8.acceptRanges" Lib.acceptData) : UtfIn (memH w) := by
 have ht:Lib.Utf8Tabs 7 8 w:=utf8Tabs_of_readsT (U8Types.of196 Tryz.laysValid) u8Extra h1 h2
 exact fun W hW => ⟨fun c hc => hW.cell (memH_cell (ht.1 c hc)),fun i hi => ⟨hW.cell (memH_cell (ht.2 i hi).1),hW.cell (memH_cell (ht.2 i hi).2)⟩⟩
structure GlobU (w:World):Prop where
 utf:UtfIn (memH w)
 mlen:MLen (memH w)
end Go.Proofs.YtfmnlpmgakgleaaGreatDoor
