/- Texts of this claim, put together: Glob, GlobU, GlobN. -/
import Derived.Test.YtbidhpgjmcedaaaGreatDoorGAQ
import Derived.Test.YtbidhpgjmcedaaaGreatDoorGAD
import Derived.OpenShut
import Derived.FnData
import Derived.Shelf.Vars
import Derived.MakeChecks
import Derived.Handed
import Derived.Test.YtbidhpgjmcedaaaGreatDoorGAO
import Derived.Lib.LaidU8T
import Derived.Test.YtbidhpgjmcedaaaGreatDoorGBC
namespace Go.Proofs.YtbidhpgjmcedaaaGreatDoor
set_option linter.unusedVariables false
open Go.RowKit
def memH (w : World) : Frz:=fun b => w.heap[b]?
theorem memH_in (w : World) : (memH w).In w:=fun b o h => h
theorem memH_cell {w : World} {b o : Nat} {v : Value} (h : w.cell? ⟨b,o,none⟩ = some v) : (memH w).cell? ⟨b,o,none⟩ = some v:=by
 unfold Frz.cell? memH
 simp only [World.cell?] at h ⊢
 split at h <;> simp_all
def VarHolds (P : Program) (w : World) (n : String) (d : DataW Unit) : Prop :=
 ∃ g t cs fuel p,P.globalNamed n = some g ∧ (P.globals[g]?).map (·.type) = some t ∧ w.var? P n = some cs ∧ DataW.trod (fun _ => ()) P w 0 (fun _ => true) false fuel t cs.toList = some (d,p)
theorem laid_holds {P : Program} {w : World} : ∀ {l : List (String × DataW Unit)} {ps : List MemPlace},DataW.LaidVars P w l ps → ∀ n d,(n,d) ∈ l → VarHolds P w n d
 | [],_,_,_,_,hm => by cases hm
 | (n',d') :: r,ps,h,n,d,hm => by
  obtain ⟨g,t,cs,fuel,p,q,h1,h2,h3,h4,h5,_⟩:=h
  rcases List.mem_cons.1 hm with e | e
  ·cases e
   exact ⟨g,t,cs,fuel,p,h1,h2,h3,h4⟩
  ·exact laid_holds h5 n d e
theorem laidH_holds {P : Program} {w : World} {l : List (String × DataW Unit)} (h : laidMetH P l w) (hl : (l.all fun x => x.2.handleName?.isNone) = true) {n : String} {d : DataW Unit} (hm : (n,d) ∈ l) : VarHolds P w n d:=by
 rw [MakeChecks.laidMetH_plain _ _ _ hl] at h
 obtain ⟨ps,hv,_⟩:=h
 exact laid_holds hv n d hm
def poolData : DataW Unit:=.agg (poolL.map fun x => .agg [.lit (.int .i64 x.1),.lit (.string x.2)])
theorem pool_of {w : World} (h : VarHolds Tryz.prog w "handbill/handmake.idPool" poolData) : PoolIn (memH w) := by
 obtain ⟨g,t,cs,fuel,p,hg,hty,hvar,hd⟩:=h
 obtain rfl := Option.some.inj ((show Tryz.prog.globalNamed "handbill/handmake.idPool" = some 1 by kernel_rfl).symm.trans hg)
 obtain rfl:=Option.some.inj ((show (Tryz.prog.globals[1]?).map (·.type) = some 213 by kernel_rfl).symm.trans hty)
 obtain ⟨xs,m,-,hx,hl,hxl,hf⟩:=DataW.trod_array Tryz.underlying213 hd
 have hce : Tryz.prog.cellsOf 55 = 2:=by kernel_rfl
 have hci : Tryz.prog.cellsOf 3 = 1:=by kernel_rfl
 have hcs : Tryz.prog.cellsOf 9 = 1:=by kernel_rfl
 have hdx : xs.map (·.1) = poolL.map fun x => (DataW.agg [.lit (.int .i64 x.1),.lit (.string x.2)] : DataW Unit):=by
  have:=congrArg Prod.fst hx
  simpa [poolData] using this.symm
 intro i hi
 have hi10 : i < 10:=hi
 have h1:=hf i hi10
 rw [hce] at h1
 have hix : i < xs.length:=by omega
 rw [List.getElem?_eq_getElem hix] at h1
 have hpx : poolL[i]? = some poolL[i]:=List.getElem?_eq_getElem hi
 generalize poolL[i] = x at hpx ⊢
 have hd1 : xs[i].1 = DataW.agg [.lit (.int .i64 x.1),.lit (.string x.2)]:=by
  have:=congrArg (fun l => l[i]?) hdx
  simp only [List.getElem?_map] at this
  rw [List.getElem?_eq_getElem hix,hpx] at this
  exact Option.some.inj this
 obtain ⟨y0,y1,n,hy,hl2,a0,a1⟩:=Go.ChangeShapes.trod_struct2 Tryz.underlying55 h1
 have hy':=(congrArg Prod.fst hy).symm.trans hd1
 simp only [DataW.agg.injEq,List.cons.injEq,and_true] at hy'
 obtain ⟨e0,e1⟩:=hy'
 obtain ⟨z,c0,v0,-⟩:=DataW.trod_int Tryz.underlying3 a0
 obtain ⟨s,c1,v1,-⟩:=DataW.trod_string Tryz.underlying9 a1
 have ez:=(congrArg Prod.fst v0).symm.trans e0
 have es:=(congrArg Prod.fst v1).symm.trans e1
 simp only [DataW.lit.injEq,Lit.int.injEq,true_and,Lit.string.injEq] at ez es
 subst ez
 simp only [hci,hcs] at c0 c1
 have k0:=congrArg (fun l => l[0]?) c0
 have k1:=congrArg (fun l => l[0]?) c1
 simp [List.getElem?_drop] at k0 k1
 refine ⟨memH_cell ?_,memH_cell ?_⟩
 ·rw [World.var?_cell hg hvar (i * 2),← Array.getElem?_toList]
  simpa using k0
 ·rw [World.var?_cell hg hvar (i * 2 + 1),← Array.getElem?_toList]
  rw [← es]
  simpa using k1
theorem mlen_of {w : World} (h : w.ShapedOpen Tryz.prog) : MLen (memH w):=by
 obtain ⟨m,hm⟩:=Go.Proofs.cell_of_shapedOpen_int (P:=Tryz.prog) (g:=4) (t:=3) (zero:=#[.int .i64 0]) h (of_decide_eq_true (by kernel_rfl)) (by kernel_rfl) rfl (by kernel_rfl) (by kernel_rfl) Tryz.underlying3
 exact ⟨m,memH_cell hm⟩
structure GlobOk (w : World) : Prop where
 pool : PoolIn (memH w)
 mlen : MLen (memH w)
theorem Lw.whole {w : World} {a : Option Addr} {len cap : Nat} {zs : List Int} (h : IsRow .i64 w a len cap zs) :
  Lw w w.heap.size 0 (memH w) (w.alloc (.cells #[.slice a len cap,.int .i64 0] 25)) :=
 ⟨St.of_row h,(Below.refl _ _).alloc (Nat.le_refl _) _,Nat.le_refl _,(memH_in w).alloc _,Array.getElem?_eq_none (Nat.le_refl _)⟩
theorem handed_and {H : Type} {enc : TypeId × Value → H} {a : Assume} {C : Checked} {os : Os} {f : FuncId} {fn : Func} {s : ChangeSpec} {conds : List PathCond} {apart fresh handsOn again : Bool} {X : World → Array Value → Prop}
  (hX : ∀ (w w' : World) (args : Array Value),w.heap = w'.heap → X w args → X w' args)
  (own : ownKnob C.prog.godebug = none) (started : os.Started) (noInit : C.prog.inits.idxOf? f = none) (hfn : C.prog.funcs[f]? = some fn)
  (witness : ∃ (w : World) (tape : Tape) (i : Input),w.os = os ∧ (w.forCall tape i).Shaped C.prog ∧ i.vars = [] ∧ Input.okWide C.prog (w.forCall tape i) .any w.heap.size f i ∧
   ((s.pre enc C.prog fn conds apart (w.forCall tape i).memory i.args ∧ X (w.forCall tape i).memory i.args) ∧ sizedMet enc C.prog fn (OpenSpec.ofChange s) apart (w.forCall tape i).memory i.args) ∧ a.holds C.prog (lone (Frame.enter C.prog f i.args .normal) [] (w.forCall tape i)))
  (contract : ∀ (W : World) (base : Nat) (args : Array Value) (ds gs : List (DataW H)) (before : List MemPlace),
   (∀ (j : Nat) t v,fn.params[j]? = some t → args[j]? = some v → Value.okWide C.prog W .any base t v) →
   DataW.Whole enc C.prog fn.params.toList s.vars apart W args.toList ds gs before →
   X W args → W.ShapedOpen C.prog →
   Calls C.prog f args W fun e W' => ∃ v,e = .returned v ∧ s.post enc C.prog fn apart fresh handsOn again W args v W') :
  ReturnsInHanded a C os f .any (fun w args => (s.pre enc C.prog fn conds apart w args ∧ X w args) ∧ sizedMet enc C.prog fn (OpenSpec.ofChange s) apart w args) (s.post enc C.prog fn apart fresh handsOn again):=by
 refine returnsInHanded_of_calls own started noInit witness ?_
 intro w tape i _ hsh _ hok hpre hholds
 obtain ⟨_,_,_,fn',hfn',_,_,_,_,hval⟩:=hok
 have e : fn' = fn:=Option.some.inj (hfn'.symm.trans hfn)
 subst e
 obtain ⟨⟨⟨ds,gs,before,hw,hc⟩,hx⟩,hz⟩:=hpre
 have hw':=DataW.Whole.of_heap (w':=w.forCall tape i) (by rfl) hw
 refine (contract (w.forCall tape i) w.heap.size i.args ds gs before hval hw' (hX _ _ _ (by rfl) hx) hsh).mono fun e W' ⟨v,he,hp⟩ => ?_
 subst he
 exact ChangeSpec.post_blind hp
open Go.RowKit
theorem u8Extra : U8Extra Tryz.prog Tryz.laysValid_ren where
 n3:=by kernel_rfl
 n4:=by kernel_rfl
 y3:=by kernel_rfl
 y4:=by kernel_rfl
 c5:=by kernel_rfl
 c119:=by kernel_rfl
 c138:=by kernel_rfl
theorem utf_of {w : World} (h1 : VarHolds Tryz.prog w "unicode/utf8.first" Lib.firstData) (h2 : VarHolds Tryz.prog w "unicode/utf8.acceptRanges" Lib.acceptData) : UtfIn (memH w) := by
 have ht : Lib.Utf8Tabs 2 3 w:=utf8Tabs_of_readsT (U8Types.of196 Tryz.laysValid) u8Extra h1 h2
 exact fun W hW => ⟨fun c hc => hW.cell (memH_cell (ht.1 c hc)),fun i hi => ⟨hW.cell (memH_cell (ht.2 i hi).1),hW.cell (memH_cell (ht.2 i hi).2)⟩⟩
structure GlobU (w : World) : Prop where
 utf : UtfIn (memH w)
 mlen : MLen (memH w)
open Go.RowKit
def namesB : List (List UInt8):=[[97,103,101],[99,105,116,121],[106,111,105,110,101,100],[110,97,109,101],[112,108,97,110],[118,105,112]]
theorem names_at (i : Nat) (h : i < namesB.length) : namesL[i]'h = ⟨namesB[i].toArray⟩:=by
 match i,h with
 | 0,_ => rfl
 | 1,_ => rfl
 | 2,_ => rfl
 | 3,_ => rfl
 | 4,_ => rfl
 | 5,_ => rfl
def namesData : DataW Unit:=.agg (namesB.map fun s => .lit (.string s))
theorem names_of {w : World} (h : VarHolds Tryz.prog w "handbill/handmake.fieldNames" namesData) : NamesIn (memH w) := by
 obtain ⟨g,t,cs,fuel,p,hg,hty,hvar,hd⟩:=h
 obtain rfl := Option.some.inj ((show Tryz.prog.globalNamed "handbill/handmake.fieldNames" = some 0 by kernel_rfl).symm.trans hg)
 obtain rfl:=Option.some.inj ((show (Tryz.prog.globals[0]?).map (·.type) = some 117 by kernel_rfl).symm.trans hty)
 obtain ⟨xs,m,-,hx,hl,hxl,hf⟩:=DataW.trod_array Tryz.underlying117 hd
 have hcs : Tryz.prog.cellsOf 9 = 1:=by kernel_rfl
 have hdx : xs.map (·.1) = namesB.map fun s => (DataW.lit (.string s) : DataW Unit):=by
  have:=congrArg Prod.fst hx
  simpa [namesData] using this.symm
 intro i hi
 have hi6 : i < 6:=hi
 have hib : i < namesB.length:=hi
 refine Eq.trans ?_ (congrArg (fun s => some (Value.string s)) (names_at i hib).symm)
 show _ = some (Value.string ⟨(namesB[i]'hib).toArray⟩)
 have h1:=hf i hi6
 rw [hcs] at h1
 have hix : i < xs.length:=by omega
 rw [List.getElem?_eq_getElem hix] at h1
 have hpx : namesB[i]? = some namesB[i]:=List.getElem?_eq_getElem hib
 generalize namesB[i] = x at hpx ⊢
 have hd1 : xs[i].1 = DataW.lit (.string x):=by
  have:=congrArg (fun l => l[i]?) hdx
  simp only [List.getElem?_map] at this
  rw [List.getElem?_eq_getElem hix,hpx] at this
  exact Option.some.inj this
 obtain ⟨s,c1,v1,-⟩:=DataW.trod_string Tryz.underlying9 h1
 have es:=(congrArg Prod.fst v1).symm.trans hd1
 simp only [DataW.lit.injEq,Lit.string.injEq] at es
 have k1:=congrArg (fun l => l[0]?) c1
 simp [List.getElem?_drop] at k1
 refine memH_cell ?_
 rw [World.var?_cell hg hvar i,← Array.getElem?_toList,← es]
 simpa using k1
structure GlobN (w : World) : Prop where
 utf : UtfIn (memH w)
 mlen : MLen (memH w)
 names : NamesIn (memH w)
structure GlobP (w : World) : Prop where
 utf : UtfIn (memH w)
 mlen : MLen (memH w)
 names : NamesIn (memH w)
 pool : PoolIn (memH w)
theorem globP_of {w : World} {l : List (String × DataW Unit)} {d1 d2 d3 d4 : DataW Unit} (e1 : d1 = Lib.firstData) (e2 : d2 = Lib.acceptData) (e3 : d3 = namesData) (e4 : d4 = poolData) (h : laidMetH Tryz.prog l w) (hl : (l.all fun x => x.2.handleName?.isNone) = true)
  (hm1 : ("unicode/utf8.first", d1) ∈ l) (hm2 : ("unicode/utf8.acceptRanges", d2) ∈ l) (hm3 : ("handbill/handmake.fieldNames", d3) ∈ l) (hm4 : ("handbill/handmake.idPool", d4) ∈ l) (hs : w.ShapedOpen Tryz.prog) : GlobP w := by
 subst e1 e2 e3 e4
 exact ⟨utf_of (laidH_holds h hl hm1) (laidH_holds h hl hm2),mlen_of hs,names_of (laidH_holds h hl hm3),pool_of (laidH_holds h hl hm4)⟩
end Go.Proofs.YtbidhpgjmcedaaaGreatDoor
